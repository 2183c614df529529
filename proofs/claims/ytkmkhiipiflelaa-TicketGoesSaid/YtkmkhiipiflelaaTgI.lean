import Derived.Test.YtkmkhiipiflelaaTgD
set_option linter.unusedSimpArgs false
set_option linter.unusedVariables false
set_option maxRecDepth 100000
set_option maxHeartbeats 4000000
namespace Go.Proofs.Ytkmkhiipiflelaa
open Go Go.Proofs Go.Proofs.PI
/-! ### own boxes whose tickets have own keys -/
def Tkt.csK (t : Tkt) (kv : AV) : List AV := [.int .i64 t.num, .int .u8 t.kind, .int .u8 t.cmd.kind, .int .i64 t.cmd.ten, kv, .str t.cmd.val, .int .u32 t.cmd.flags, .int .i64 t.cmd.for_, .int .u64 t.cmd.uniq, .int .u64 t.cmd.by_, .int .i64 t.ten, .int .i64 t.to]
def Tkt.avK (t : Tkt) (kv : AV) : AV := .agg [.int .i64 t.num, .int .u8 t.kind, .int .u8 t.cmd.kind, .int .i64 t.cmd.ten, kv, .str t.cmd.val, .int .u32 t.cmd.flags, .int .i64 t.cmd.for_, .int .u64 t.cmd.uniq, .int .u64 t.cmd.by_, .int .i64 t.ten, .int .i64 t.to]
def rowK (rs : List (Tkt × AV)) : List AV := rs.flatMap fun r => r.1.csK r.2
theorem rowK_append (a b : List (Tkt × AV)) : rowK (a ++ b) = rowK a ++ rowK b := List.flatMap_append
theorem rowK_cons (r : Tkt × AV) (rs : List (Tkt × AV)) : rowK (r :: rs) = r.1.csK r.2 ++ rowK rs := rfl
theorem rowK_one (r : Tkt × AV) : rowK [r] = r.1.csK r.2 := by rw [rowK_cons]; exact List.append_nil _
theorem rowK_length (rs : List (Tkt × AV)) : (rowK rs).length = rs.length * 12 := by
  induction rs with
  | nil => rfl
  | cons r rs ih => rw [rowK_cons, List.length_append, ih, List.length_cons, show (r.1.csK r.2).length = 12 from rfl]; omega
theorem rowK_get (rs : List (Tkt × AV)) : ∀ (i : Nat) (j : Nat), j < 12 → (rowK rs)[i * 12 + j]? = (rs[i]?).bind fun r => (r.1.csK r.2)[j]? := by
  induction rs with
  | nil => intro i j hj; rfl
  | cons r rs ih =>
    intro i j hj
    rw [rowK_cons]
    cases i with
    | zero => rw [Nat.zero_mul, Nat.zero_add, List.getElem?_append_left (by show j < 12; exact hj)]; rfl
    | succ i =>
      rw [List.getElem?_append_right (by show 12 ≤ _; omega), show (i + 1) * 12 + j - (r.1.csK r.2).length = i * 12 + j by show _ - 12 = _; omega, ih i j hj]; rfl
theorem own_esz {m sz : Nat} {H : Heap} {v : AV} {cs : List AV} (h : Own m H v sz cs) {b : Nat} (hb : v.blk = some b) : ∃ c st, H[b]? = some (⟨c, sz, st⟩ : Blk) ∧ st.own = true := by
  rcases h with ⟨rfl, _⟩ | ⟨b2, n, st, rest, rfl, _, h2, h3, _⟩
  · cases hb
  · cases hb; exact ⟨_, _, h2, h3⟩
def KeyO (m : Nat) (H : Heap) (p : Nat) (r : Tkt × AV) : Prop := OwnE Enc.str m H r.2 r.1.cmd.keys ∧ r.2.blk ≠ some p
def OwnK (m : Nat) (H : Heap) (p : Nat) (x : AV) (l : List Tkt) : Prop := ∃ rs : List (Tkt × AV), rs.map Prod.fst = l ∧ Own m H x 12 (rowK rs) ∧ ∀ r ∈ rs, KeyO m H p r
section
variable {m p : Nat} {H G : Heap} {x : AV} {l : List Tkt}
theorem OwnK.nils (m : Nat) (H : Heap) (p : Nat) : OwnK m H p .nils [] := ⟨[], rfl, .inl ⟨rfl, rfl⟩, fun r hr => by cases hr⟩
theorem OwnK.one (o : OwnK m H p x l) : x.one = true := by obtain ⟨rs, _, h, _⟩ := o; exact Own.one h
theorem OwnK.ge (o : OwnK m H p x l) {b : Nat} (hb : x.blk = some b) : m ≤ b := by obtain ⟨rs, _, h, _⟩ := o; exact Own.ge h hb
theorem OwnK.lt (o : OwnK m H p x l) {b : Nat} (hb : x.blk = some b) : b < H.length := by obtain ⟨rs, _, h, _⟩ := o; exact Own.lt h hb
theorem OwnK.esz (o : OwnK m H p x l) {b : Nat} (hb : x.blk = some b) : ∃ c st, H[b]? = some (⟨c, 12, st⟩ : Blk) ∧ st.own = true := by obtain ⟨rs, _, h, _⟩ := o; exact own_esz h hb
theorem OwnK.sc (o : OwnK m H p x l) : x.solid = true ∧ x.cells = [x] := by
  obtain ⟨rs, _, h, _⟩ := o
  rcases h with ⟨rfl, _⟩ | ⟨b, n, st, rest, rfl, _⟩ <;> exact ⟨rfl, rfl⟩
theorem KeyO.same {r : Tkt × AV} (o : KeyO m H p r) (hk : ∀ b, m ≤ b → b < H.length → (∃ c st, H[b]? = some (⟨c, 1, st⟩ : Blk)) → b ≠ p → G[b]? = H[b]?) : KeyO m G p r :=
  ⟨own_same o.1 fun b hb => hk b (o.1.ge hb) (o.1.lt hb) (by obtain ⟨c, st, h, _⟩ := own_esz o.1 hb; exact ⟨c, st, h⟩) (fun e => o.2 (by rw [hb, e])), o.2⟩
theorem OwnK.same (o : OwnK m H p x l) (hx : ∀ b, x.blk = some b → G[b]? = H[b]?) (hk : ∀ b, m ≤ b → b < H.length → (∃ c st, H[b]? = some (⟨c, 1, st⟩ : Blk)) → b ≠ p → G[b]? = H[b]?) : OwnK m G p x l := by
  obtain ⟨rs, h1, h2, h3⟩ := o
  exact ⟨rs, h1, own_same h2 hx, fun r hr => (h3 r hr).same hk⟩
theorem OwnK.keep0 (o : OwnK m H p x l) (k : Keep none H G) : OwnK m G p x l := o.same (fun b hb => k.at_ b (o.lt hb) (by simp)) (fun b _ hb _ _ => k.at_ b hb (by simp))
theorem OwnK.mono (o : OwnK m H p x l) {m2 : Nat} (hm : m2 ≤ m) : OwnK m2 H p x l := by
  obtain ⟨rs, h1, h2, h3⟩ := o
  exact ⟨rs, h1, Own.mono h2 hm, fun r hr => ⟨Own.mono (h3 r hr).1 hm, (h3 r hr).2⟩⟩
end
structure BxK (m : Nat) (H : Heap) (p : Nat) (ps : List AV) (l : List (List Tkt)) : Prop where
  len : ps.length = l.length
  ge : m ≤ p
  blk : ∃ st rest, H[p]? = some (⟨ps ++ rest, 1, st⟩ : Blk) ∧ st.own = true
  el : ∀ (i : Nat) x t, ps[i]? = some x → l[i]? = some t → OwnK m H p x t ∧ x.blk ≠ some p
  dis : ∀ (i j : Nat) x y b, i ≠ j → ps[i]? = some x → ps[j]? = some y → x.blk = some b → y.blk ≠ some b
section
variable {m p : Nat} {H : Heap} {ps : List AV} {l : List (List Tkt)} {T' : TypeId → Option TD}
theorem BxK.get (o : BxK m H p ps l) {i : Nat} (h : i < l.length) : ∃ x, ps[i]? = some x ∧ l[i]? = some l[i] ∧ OwnK m H p x l[i] ∧ x.blk ≠ some p := by
  have h1 := List.getElem?_eq_getElem (l := ps) (i := i) (by rw [o.len]; exact h)
  have h2 := List.getElem?_eq_getElem h
  exact ⟨_, h1, h2, o.el i _ _ h1 h2⟩
theorem BxK.lt (o : BxK m H p ps l) : p < H.length := by
  obtain ⟨st, rest, h, -⟩ := o.blk
  exact (List.getElem?_eq_some_iff.1 h).1
theorem BxK.lts (o : BxK m H p ps l) {i : Nat} {x : AV} {b : Nat} (hx : ps[i]? = some x) (hb : x.blk = some b) : m ≤ b ∧ b < H.length ∧ b ≠ p := by
  have hi : i < l.length := by rw [← o.len]; exact (List.getElem?_eq_some_iff.1 hx).1
  obtain ⟨h1, h2⟩ := o.el i x _ hx (List.getElem?_eq_getElem hi)
  exact ⟨h1.ge hb, h1.lt hb, fun e => h2 (by rw [hb, e])⟩
theorem read_ps {st : St} {rest : List AV} (h : H[p]? = some (⟨ps ++ rest, 1, st⟩ : Blk)) (h2 : st.own = true) {i : Nat} {x : AV} (hx : ps[i]? = some x) : H.read p i 1 = some [x] := by
  obtain ⟨hi, e⟩ := List.getElem?_eq_some_iff.1 hx
  unfold Heap.read
  rw [h]
  simp only [own_alive h2, true_and]
  rw [if_pos (by rw [List.length_append]; omega)]
  simp only [Option.some.injEq]
  rw [List.drop_append_of_le_length (by omega), List.take_append_of_le_length (by rw [List.length_drop]; omega), List.drop_eq_getElem_cons hi, e]
  rfl
theorem BxK.read (o : BxK m H p ps l) {i : Nat} {x : AV} (hx : ps[i]? = some x) : H.read p i 1 = some [x] := by
  obtain ⟨st, rest, h, h2⟩ := o.blk
  exact read_ps h h2 hx
theorem BxK.store (o : BxK m H p ps l) {i : Nat} {x : AV} (hx : ps[i]? = some x) {H2 : Heap} (h2 : H2[p]? = H[p]?) {te : TypeId} (hte : asize T' te = some 1) {s : AV} (hso : s.solid = true) (hc : s.cells = [s]) :
    ∃ st rest, st.own = true ∧ astore T' H2 te (.ptr p i) s = some (List.set H2 p ⟨ps.set i s ++ rest, 1, st⟩) := by
  obtain ⟨st, rest, h, hst⟩ := o.blk
  have hi : i < ps.length := (List.getElem?_eq_some_iff.1 hx).1
  refine ⟨st, rest, hst, ?_⟩
  simp only [astore, hte, h2, h, hst, hso, hc, List.length_cons, List.length_nil, true_and]
  rw [if_pos (by rw [List.length_append]; omega), wr_left _ _ _ _ (by simp; omega), wr_one _ _ _ (by omega)]
theorem BxK.low (o : BxK m H p ps l) {G : Heap} (h : ∀ b, m ≤ b → b < H.length → G[b]? = H[b]?) : BxK m G p ps l := by
  refine ⟨o.len, o.ge, ?_, fun i x t hx ht => ?_, o.dis⟩
  · obtain ⟨st, rest, h1, h2⟩ := o.blk
    exact ⟨st, rest, by rw [h p o.ge o.lt]; exact h1, h2⟩
  · obtain ⟨g1, g2⟩ := o.el i x t hx ht
    exact ⟨g1.same (fun b hb => h b (g1.ge hb) (g1.lt hb)) (fun b h1 h2 _ _ => h b h1 h2), g2⟩
theorem BxK.keep (o : BxK m H p ps l) {G : Heap} (k : Keep none H G) : BxK m G p ps l := o.low fun b _ hb => k.at_ b hb (by simp)
theorem BxK.mono (o : BxK m H p ps l) {m2 : Nat} (hm : m2 ≤ m) : BxK m2 H p ps l :=
  ⟨o.len, Nat.le_trans hm o.ge, o.blk, fun i x t hx ht => ⟨(o.el i x t hx ht).1.mono hm, (o.el i x t hx ht).2⟩, o.dis⟩
/-- One of them has grown, and is stored. -/
theorem BxK.upd (o : BxK m H p ps l) {i : Nat} {x y : AV} {t t2 : List Tkt} (hx : ps[i]? = some x) (ht : l[i]? = some t) {H2 : Heap} (k : Keep x.blk H H2) (o2 : OwnK m H2 p y t2) (hn : ∀ b, y.blk = some b → x.blk = some b ∨ H.length ≤ b)
    (rest : List AV) (st : St) (hst : st.own = true) : BxK m (List.set H2 p ⟨ps.set i y ++ rest, 1, st⟩) p (ps.set i y) (l.set i t2) := by
  have hi : i < ps.length := (List.getElem?_eq_some_iff.1 hx).1
  have hp2 : p < H2.length := Nat.lt_of_lt_of_le o.lt k.len
  have hxo := (o.el i x t hx ht).1
  have hyp : y.blk ≠ some p := fun e => by
    rcases hn p e with h | h
    · exact (o.el i x t hx ht).2 h
    · have := o.lt; omega
  have hyj : ∀ (j : Nat) z b, j ≠ i → ps[j]? = some z → y.blk = some b → z.blk ≠ some b := fun j z b hj hz hb hzb => by
    rcases hn b hb with h | h
    · exact o.dis j i z x b hj hz hx hzb h
    · have := (o.lts hz hzb).2.1; omega
  refine ⟨by rw [List.length_set, List.length_set]; exact o.len, o.ge, ⟨st, rest, List.getElem?_set_self hp2, hst⟩, fun j z u hz hu => ?_, fun j j2 z z2 b hne hz hz2 hzb => ?_⟩
  · by_cases e : i = j
    · subst e
      rw [List.getElem?_set_self hi] at hz
      rw [List.getElem?_set_self (by rw [← o.len]; exact hi)] at hu
      simp only [Option.some.injEq] at hz hu
      subst hz; subst hu
      exact ⟨o2.same (fun b hb => List.getElem?_set_ne fun e => hyp (by rw [hb, e])) (fun b _ _ _ hb => List.getElem?_set_ne fun e => hb e.symm), hyp⟩
    · rw [List.getElem?_set_ne e] at hz hu
      obtain ⟨g1, g2⟩ := o.el j z u hz hu
      refine ⟨g1.same (fun b hb => ?_) (fun b h1 h2 h3 hb => ?_), g2⟩
      · rw [List.getElem?_set_ne fun e => g2 (by rw [hb, e]), k.at_ b (g1.lt hb) fun e2 => o.dis j i z x b (fun e3 => e e3.symm) hz hx hb e2]
      · rw [List.getElem?_set_ne fun e => hb e.symm, k.at_ b h2 fun e2 => ?_]
        obtain ⟨c, st', e3⟩ := h3
        obtain ⟨c2, st2, e4, _⟩ := hxo.esz e2
        rw [e3] at e4; cases e4
  · by_cases e : i = j
    · subst e
      rw [List.getElem?_set_self hi] at hz
      rw [List.getElem?_set_ne hne] at hz2
      simp only [Option.some.injEq] at hz
      subst hz
      exact hyj j2 z2 b (fun e => hne e.symm) hz2 hzb
    · rw [List.getElem?_set_ne e] at hz
      by_cases e2 : i = j2
      · subst e2
        rw [List.getElem?_set_self hi] at hz2
        simp only [Option.some.injEq] at hz2
        subst hz2
        exact fun hh => hyj j z b (fun e => hne e) hz hh hzb
      · rw [List.getElem?_set_ne e2] at hz2
        exact o.dis j j2 z z2 b hne hz hz2 hzb
theorem BxK.new (J : Heap) (n : Nat) (hm : m ≤ J.length) {st : St} (hst : st.own = true) : BxK m (J ++ [⟨List.replicate n .nils, 1, st⟩]) J.length (List.replicate n .nils) (List.replicate n []) := by
  refine ⟨by simp, hm, ⟨st, [], by simp, hst⟩, fun i x t hx ht => ?_, fun i j x y b _ hx hy hb => ?_⟩
  · have hx := List.eq_of_mem_replicate (List.mem_of_getElem? hx)
    have ht := List.eq_of_mem_replicate (List.mem_of_getElem? ht)
    subst hx; subst ht
    exact ⟨OwnK.nils _ _ _, by simp [AV.blk]⟩
  · have hx := List.eq_of_mem_replicate (List.mem_of_getElem? hx)
    subst hx; cases hb
end
/-! ### boxes to be looked at, and written over -/
def TlK (m : Nat) (H : Heap) (p : Nat) (x : AV) (l : List Tkt) : Prop := ∃ (z : Nat) (rs : List (Tkt × AV)), (rs.drop z).map Prod.fst = l ∧ (∀ r ∈ rs, KeyO m H p r) ∧
  (((x = .nils ∨ x = .emp) ∧ l = []) ∨ ∃ b cap st rest, x = .sl b (z * 12) l.length cap ∧ (∀ c, cap = some c → l.length ≤ c) ∧ m ≤ b ∧ b ≠ p ∧ H[b]? = some (⟨rowK rs ++ rest, 12, st⟩ : Blk) ∧ st.own = true ∧ z ≤ rs.length)
structure TlO3 (m : Nat) (H : Heap) (p : Nat) (qs : List AV) (l : List (List Tkt)) : Prop where
  len : qs.length = l.length
  ge : m ≤ p
  blk : ∃ st rest, H[p]? = some (⟨qs ++ rest, 1, st⟩ : Blk) ∧ st.own = true
  el : ∀ (i : Nat) x t, qs[i]? = some x → l[i]? = some t → TlK m H p x t
section
variable {m p : Nat} {H G : Heap} {x : AV} {l : List Tkt}
theorem TlK.of (o : OwnK m H p x l) (hp : x.blk ≠ some p) : TlK m H p x l := by
  obtain ⟨rs, h1, h2, h3⟩ := o
  refine ⟨0, rs, h1, h3, ?_⟩
  rcases h2 with ⟨rfl, e⟩ | ⟨b, n, st, rest, rfl, g1, g2, g3, g4⟩
  · left
    refine ⟨.inl rfl, ?_⟩
    have := rowK_length rs
    rw [e] at this
    simp only [List.length_nil] at this
    have : rs = [] := List.eq_nil_of_length_eq_zero (by omega)
    rw [← h1, this]; rfl
  · right
    rw [rowK_length] at g4
    have hn : n = l.length := by rw [← h1, List.length_map]; omega
    subst hn
    exact ⟨b, none, st, rest, by rw [Nat.zero_mul], (fun c hc => by cases hc), g1, (fun e => hp (by rw [← e]; rfl)), g2, g3, Nat.zero_le _⟩
theorem TlK.same (o : TlK m H p x l) (hx : ∀ b, x.blk = some b → G[b]? = H[b]?) (hk : ∀ b, m ≤ b → b < H.length → (∃ c st, H[b]? = some (⟨c, 1, st⟩ : Blk)) → b ≠ p → G[b]? = H[b]?) : TlK m G p x l := by
  obtain ⟨z, rs, h1, h2, h3⟩ := o
  refine ⟨z, rs, h1, fun r hr => (h2 r hr).same hk, ?_⟩
  rcases h3 with h3 | ⟨b, cap, st, rest, rfl, hc, g1, g2, g3, g4⟩
  · exact .inl h3
  · exact .inr ⟨b, cap, st, rest, rfl, hc, g1, g2, by rw [hx b rfl]; exact g3, g4⟩
theorem TlK.mono (o : TlK m H p x l) {m2 : Nat} (hm : m2 ≤ m) : TlK m2 H p x l := by
  obtain ⟨z, rs, h1, h2, h3⟩ := o
  refine ⟨z, rs, h1, fun r hr => ⟨Own.mono (h2 r hr).1 hm, (h2 r hr).2⟩, h3.imp id ?_⟩
  rintro ⟨b, cap, st, rest, h⟩
  exact ⟨b, cap, st, rest, h.1, h.2.1, Nat.le_trans hm h.2.2.1, h.2.2.2⟩
theorem TlK.blkge (o : TlK m H p x l) {b : Nat} (hb : x.blk = some b) : m ≤ b ∧ b < H.length ∧ b ≠ p := by
  obtain ⟨z, rs, h1, h2, h3⟩ := o
  rcases h3 with ⟨rfl | rfl, _⟩ | ⟨b, cap, st, rest, rfl, hc, g1, g2, g3, g4⟩
  · cases hb
  · cases hb
  · cases hb; exact ⟨g1, (List.getElem?_eq_some_iff.1 g3).1, g2⟩
theorem TlK.one (o : TlK m H p x l) : x.one = true ∧ x.solid = true ∧ x.cells = [x] := by
  obtain ⟨z, rs, h1, h2, h3⟩ := o
  rcases h3 with ⟨rfl | rfl, _⟩ | ⟨b, cap, st, rest, rfl, _⟩ <;> exact ⟨rfl, rfl, rfl⟩
theorem TlK.thaw (o : TlK m H p x l) : Thaw m H x (tktE.lst l) := by
  obtain ⟨z, rs, h1, h2, h3⟩ := o
  rcases h3 with ⟨rfl | rfl, rfl⟩ | ⟨b, cap, st, rest, rfl, hc, g1, g2, g3, g4, g5⟩
  · exact .nils
  · exact .emp
  · have hl : l.length = rs.length - z := by rw [← h1, List.length_map, List.length_drop]
    refine .sl b (z * 12) _ cap _ _ g1 g3 g4 ?_ fun i a c ha hcc => ?_
    · rw [Enc.row_length, List.length_append, rowK_length, show tktE.sz = 12 from rfl, hl]; omega
    · have hi := (List.getElem?_eq_some_iff.1 hcc).1
      rw [Enc.row_length, show tktE.sz = 12 from rfl, hl] at hi
      simp only at ha
      rw [List.getElem?_append_left (by rw [rowK_length]; omega)] at ha
      have hd : z * 12 + i = (z + i / 12) * 12 + i % 12 := by omega
      rw [hd, rowK_get _ _ _ (Nat.mod_lt _ (by omega))] at ha
      have hlt : z + i / 12 < rs.length := by omega
      rw [List.getElem?_eq_getElem hlt] at ha
      simp only [Option.bind_some] at ha
      have hcc2 : (tktE.row l)[i]? = (l[i / 12]?).bind fun t => t.cs[i % 12]? := by
        have hrow : ∀ (l : List Tkt) (i j : Nat), j < 12 → (tktE.row l)[i * 12 + j]? = (l[i]?).bind fun t => t.cs[j]? := fun l => by
          induction l with
          | nil => intro i j hj; rfl
          | cons t l ih =>
            intro i j hj
            rw [Enc.row_cons]
            cases i with
            | zero => rw [Nat.zero_mul, Nat.zero_add, List.getElem?_append_left (by show j < 12; exact hj)]; rfl
            | succ i => rw [List.getElem?_append_right (by show 12 ≤ _; omega), show (i + 1) * 12 + j - (tktE.cells t).length = i * 12 + j by show _ - 12 = _; omega, ih i j hj]; rfl
        have := hrow l (i / 12) (i % 12) (Nat.mod_lt _ (by omega))
        rw [show i / 12 * 12 + i % 12 = i by omega] at this
        exact this
      rw [hcc2] at hcc
      have hli : l[i / 12]? = some rs[z + i / 12].1 := by
        rw [← h1, List.getElem?_map, List.getElem?_drop, List.getElem?_eq_getElem hlt]; rfl
      rw [hli] at hcc
      simp only [Option.bind_some] at hcc
      have hko := h2 _ (List.getElem_mem hlt)
      generalize rs[z + i / 12] = r at *
      obtain ⟨t, kv⟩ := r
      simp only at *
      have h12 : i % 12 < 12 := Nat.mod_lt _ (by omega)
      generalize i % 12 = j at *
      have hk := OwnE.thaw (E := Enc.str) hko.1 (by decide)
      have hcases : j = 0 ∨ j = 1 ∨ j = 2 ∨ j = 3 ∨ j = 4 ∨ j = 5 ∨ j = 6 ∨ j = 7 ∨ j = 8 ∨ j = 9 ∨ j = 10 ∨ j = 11 := by omega
      rcases hcases with rfl | rfl | rfl | rfl | rfl | rfl | rfl | rfl | rfl | rfl | rfl | rfl <;> (cases ha; cases hcc; first | exact hk | exact .atom _ rfl)
end
open Go Go.Proofs Go.Proofs.PI
theorem OwnK.push {m p : Nat} {H : Heap} {x kv : AV} {l : List Tkt} {t : Tkt} (o : OwnK m H p x l) (hk : KeyO m H p (t, kv)) : ∃ rs : List (Tkt × AV), Own m H x 12 (rowK rs) ∧ rs.length = l.length ∧ ∀ v2 J3 (B : Blk), Own m J3 v2 12 (rowK rs ++ t.csK kv) → Keep x.blk (H ++ [B] : List Blk) J3 → OwnK m J3 p v2 (l ++ [t]) := by
  have hesz := fun b hb => o.esz (b := b) hb
  obtain ⟨rs, h1, h2, h3⟩ := o
  refine ⟨rs, h2, by rw [← h1, List.length_map], fun v2 J3 B hv k => ⟨rs ++ [(t, kv)], by rw [List.map_append, h1]; rfl, by rw [rowK_append, rowK_one]; exact hv, fun r hr => ?_⟩⟩
  have hr' : KeyO m H p r := by
    rcases List.mem_append.1 hr with hr | hr
    · exact h3 r hr
    · rw [List.mem_singleton.1 hr]; exact hk
  refine hr'.same fun b hm hb hc _ => ?_
  rw [k.at_ b (by simp; omega) (fun e => ?_), List.getElem?_append_left hb]
  obtain ⟨c, st, e1⟩ := hc
  obtain ⟨c2, st2, e2, _⟩ := hesz b e
  rw [e1] at e2; cases e2
def tkt0C : List AV := [.int .i64 0, .int .u8 0, .int .u8 0, .int .i64 0, .nils, .str [], .int .u32 0, .int .i64 0, .int .u64 0, .int .u64 0, .int .i64 0, .int .i64 0]
theorem one_own (t : Tkt) (hn : t.cmd.keys.length ≤ 1000000) (H : Heap) : WC Try.prog 36 [t.av] H fun r H' => (∃ kv, r = t.avK kv ∧ OwnE Enc.str H.length H' kv t.cmd.keys) ∧ Keep none H H' := by
  refine WC_of_K fun K hK => ?_
  have cl := fun J => kclone_own t.cmd.keys hn J
  unfold Tkt.av Tkt.avK at *
  refine WC_of_body hT Try.func36 rfl (by simp [Try.f36]) (by simp [Try.f36]) (wx_sound hT _ ?_)
  simp only [Try.f36]
  repeat' (first | simp only [go_sem, Nat.reduceLT, Nat.reduceEqDiff, Nat.reduceAdd, Nat.reduceMul, Nat.reduceSub, Nat.reduceLeDiff, Int.reduceToNat, Int.reduceNeg, Int.reduceLT, Int.reduceLE, Int.reduceEq, reduceCtorEq, Int.natCast_zero, Int.natCast_one, Int.cast_ofNat_Int, Bool.not_not, false_eq_decide, true_eq_decide, hread0, hreadk, read_cons0, read_consk, astore_h0, astore_hk, hget0, hgetk, hset0, hsetk, hlen, hcat, Nat.add_assoc, Nat.add_zero, Nat.zero_add, List.length_append, and_true, true_and, AV.flat, *, -hK, -cl, -hn] | with_reducible refine IfB_dec (fun h => ?_) (fun h => ?_) | with_reducible refine Guard_dec (fun h => ?_) (fun h => ?_) | with_reducible refine Guard_ndec (fun h => ?_) (fun h => ?_) | with_reducible refine Guard_not (fun h => ?_) (fun h => ?_) | with_reducible refine IfB_ndec (fun h => ?_) (fun h => ?_) | with_reducible refine IfB_not (fun h => ?_) (fun h => ?_) | with_reducible refine Guard_split (fun h => ?_) (fun h => ?_) | with_reducible refine IfB_split (fun h => ?_) (fun h => ?_))
  refine (cl _).mono ?_
  rintro kv J ⟨o, k⟩
  have g0 := k.get (b := H.length) (B := ⟨t.cs, 0, .full⟩) (by rw [hget0]; rfl) (by simp)
  have g1 := k.get (b := H.length + 1) (B := ⟨tkt0C, 0, .full⟩) (by rw [hgetk]; rfl) (by simp)
  unfold Tkt.cs at g0
  unfold tkt0C at g1
  have hkv := o.one
  have hl : H.length + 2 ≤ J.length := by have := k.len; simpa using this
  have g2 : (List.set J H.length (⟨t.csK kv, 0, .full⟩ : Blk))[H.length]? = some ⟨t.csK kv, 0, .full⟩ := List.getElem?_set_self (by omega)
  have g3 : (List.set J H.length (⟨t.csK kv, 0, .full⟩ : Blk))[H.length + 1]? = some ⟨tkt0C, 0, .full⟩ := by rw [List.getElem?_set_ne (by omega)]; exact g1
  have o2 : OwnE Enc.str H.length (List.set (List.set J H.length (⟨t.csK kv, 0, .full⟩ : Blk)) (H.length + 1) ⟨t.csK kv, 0, .full⟩) kv t.cmd.keys := own_same (Own.mono o (by simp)) fun b hb => by
    have := o.ge hb
    simp at this
    rw [List.getElem?_set_ne (by omega), List.getElem?_set_ne (by omega)]
  have kF : Keep none H (List.set (List.set J H.length (⟨t.csK kv, 0, .full⟩ : Blk)) (H.length + 1) ⟨t.csK kv, 0, .full⟩) := ⟨by simp; omega, fun b hb _ => by rw [List.getElem?_set_ne (by omega), List.getElem?_set_ne (by omega), k.at_ b (by simp; omega) (by simp), List.getElem?_append_left hb]⟩
  unfold Tkt.csK at g2 g3 o2 kF
  unfold tkt0C at g3
  repeat' (first | simp only [go_sem, Nat.reduceLT, Nat.reduceEqDiff, Nat.reduceAdd, Nat.reduceMul, Nat.reduceSub, Nat.reduceLeDiff, Int.reduceToNat, Int.reduceNeg, Int.reduceLT, Int.reduceLE, Int.reduceEq, reduceCtorEq, Int.natCast_zero, Int.natCast_one, Int.cast_ofNat_Int, Bool.not_not, false_eq_decide, true_eq_decide, hread0, hreadk, read_cons0, read_consk, astore_h0, astore_hk, hget0, hgetk, hset0, hsetk, hlen, hcat, Nat.add_assoc, Nat.add_zero, Nat.zero_add, List.length_append, and_true, true_and, AV.flat, g0, get_app g0, read_get g0, read_app g0, g0, get_app g0, read_get g0, read_app g0, astore_get g0, astore_app g0, get_set g0, get_set_app g0, read_set g0, read_set_app g0, astore_set g0, astore_set_app g0, List.set_set, hget0s, hgetks, hread0s, hreadks, List.length_set, g2, get_app g2, read_get g2, read_app g2, g3, get_app g3, read_get g3, read_app g3, astore_get g3, astore_app g3, get_set g3, get_set_app g3, read_set g3, read_set_app g3, astore_set g3, astore_set_app g3, List.set_set, hget0s, hgetks, hread0s, hreadks, List.length_set, hkv, one_solid hkv, one_cells hkv, *, -hK, -o, -k, -g1, -hl, -o2, -kF] | with_reducible refine IfB_dec (fun h => ?_) (fun h => ?_) | with_reducible refine Guard_dec (fun h => ?_) (fun h => ?_) | with_reducible refine Guard_ndec (fun h => ?_) (fun h => ?_) | with_reducible refine Guard_not (fun h => ?_) (fun h => ?_) | with_reducible refine IfB_ndec (fun h => ?_) (fun h => ?_) | with_reducible refine IfB_not (fun h => ?_) (fun h => ?_) | with_reducible refine Guard_split (fun h => ?_) (fun h => ?_) | with_reducible refine IfB_split (fun h => ?_) (fun h => ?_))
  exact hK _ _ ⟨⟨kv, rfl, o2⟩, kF⟩
theorem twin3 (q : Que) (h4 : q.bx.length ≤ 20) (hb : qFit q.bx) (H : Heap) :
    WC Try.prog 35 [q.av] H fun r H' => (∃ p ps, r = .agg [.int .i64 q.next, .sl p 0 q.bx.length none] ∧ BxK H.length H' p ps q.bx) ∧ Keep none H H' := by
  refine WC_of_K fun K hK => ?_
  obtain ⟨nx, bs⟩ := q
  unfold Que.av
  simp only at h4 hb hK ⊢
  obtain ⟨-, hb⟩ := hb
  have hc : (0 : Int) ≤ bs.length ∧ (bs.length : Int) ≤ bs.length ∧ (bs.length : Int) ≤ 140737488355328 ∧ 24 * (bs.length : Int) ≤ 140737488355328 := by omega
  have hj : (bs.length : Int).toNat = bs.length := Int.toNat_natCast _
  refine WC_of_body hT Try.func35 rfl (by simp [Try.f35]) (by simp [Try.f35]) (wx_sound hT _ ?_)
  simp only [Try.f35]
  repeat' (first | simp only [go_sem, Nat.reduceLT, Nat.reduceEqDiff, Nat.reduceAdd, Nat.reduceMul, Nat.reduceSub, Nat.reduceLeDiff, Int.reduceToNat, Int.reduceNeg, Int.reduceLT, Int.reduceLE, Int.reduceEq, reduceCtorEq, Int.natCast_zero, Int.natCast_one, Int.cast_ofNat_Int, Bool.not_not, false_eq_decide, true_eq_decide, hread0, hreadk, read_cons0, read_consk, astore_h0, astore_hk, hget0, hgetk, hset0, hsetk, hlen, hcat, Nat.add_assoc, Nat.add_zero, Nat.zero_add, List.length_append, and_true, true_and, AV.flat, *, -hK, -hc, -hj, -hb] | with_reducible refine IfB_dec (fun h => ?_) (fun h => ?_) | with_reducible refine Guard_dec (fun h => ?_) (fun h => ?_) | with_reducible refine Guard_ndec (fun h => ?_) (fun h => ?_) | with_reducible refine Guard_not (fun h => ?_) (fun h => ?_) | with_reducible refine IfB_ndec (fun h => ?_) (fun h => ?_) | with_reducible refine IfB_not (fun h => ?_) (fun h => ?_) | with_reducible refine Guard_split (fun h => ?_) (fun h => ?_) | with_reducible refine IfB_split (fun h => ?_) (fun h => ?_))
  refine WX_rows hT hmix [(0, none), (1, none), (2, none), (3, none), (4, none), (5, none), (6, none), (7, none), (8, some [true, true, true, true, true, true, true, true])] (by kernel_rfl) ?_
  repeat' (first | simp only [go_sem, Nat.reduceLT, Nat.reduceEqDiff, Nat.reduceAdd, Nat.reduceMul, Nat.reduceSub, Nat.reduceLeDiff, Int.reduceToNat, Int.reduceNeg, Int.reduceLT, Int.reduceLE, Int.reduceEq, reduceCtorEq, Int.natCast_zero, Int.natCast_one, Int.cast_ofNat_Int, Bool.not_not, false_eq_decide, true_eq_decide, hread0, hreadk, read_cons0, read_consk, astore_h0, astore_hk, hget0, hgetk, hset0, hsetk, hlen, hcat, Nat.add_assoc, Nat.add_zero, Nat.zero_add, List.length_append, and_true, true_and, AV.flat, *, -hK, -hc, -hj, -hb] | with_reducible refine IfB_dec (fun h => ?_) (fun h => ?_) | with_reducible refine Guard_dec (fun h => ?_) (fun h => ?_) | with_reducible refine Guard_ndec (fun h => ?_) (fun h => ?_) | with_reducible refine Guard_not (fun h => ?_) (fun h => ?_) | with_reducible refine IfB_ndec (fun h => ?_) (fun h => ?_) | with_reducible refine IfB_not (fun h => ?_) (fun h => ?_) | with_reducible refine Guard_split (fun h => ?_) (fun h => ?_) | with_reducible refine IfB_split (fun h => ?_) (fun h => ?_))
  rw [if_pos hc]
  simp only [hj, flat_nils]
  repeat' (first | simp only [go_sem, Nat.reduceLT, Nat.reduceEqDiff, Nat.reduceAdd, Nat.reduceMul, Nat.reduceSub, Nat.reduceLeDiff, Int.reduceToNat, Int.reduceNeg, Int.reduceLT, Int.reduceLE, Int.reduceEq, reduceCtorEq, Int.natCast_zero, Int.natCast_one, Int.cast_ofNat_Int, Bool.not_not, false_eq_decide, true_eq_decide, hread0, hreadk, read_cons0, read_consk, astore_h0, astore_hk, hget0, hgetk, hset0, hsetk, hlen, hcat, Nat.add_assoc, Nat.add_zero, Nat.zero_add, List.length_append, and_true, true_and, AV.flat, *, -hK, -hc, -hj, -hb] | with_reducible refine IfB_dec (fun h => ?_) (fun h => ?_) | with_reducible refine Guard_dec (fun h => ?_) (fun h => ?_) | with_reducible refine Guard_ndec (fun h => ?_) (fun h => ?_) | with_reducible refine Guard_not (fun h => ?_) (fun h => ?_) | with_reducible refine IfB_ndec (fun h => ?_) (fun h => ?_) | with_reducible refine IfB_not (fun h => ?_) (fun h => ?_) | with_reducible refine Guard_split (fun h => ?_) (fun h => ?_) | with_reducible refine IfB_split (fun h => ?_) (fun h => ?_))
  refine WX_loopS [1, 2, 3, 16, 17] (fun k fr' J => ∃ (i : Nat) (ps : List AV), k = bs.length - i ∧ i ≤ bs.length ∧ fr'.get 18 = .int .i64 i ∧ Keep none H J ∧ J[H.length]? = some (⟨[.int .i64 nx, boxE.lst bs], 0, .full⟩ : Blk) ∧ J[H.length + 1]? = some (⟨[.int .i64 0, .nils], 0, .full⟩ : Blk) ∧ J[H.length + 3]? = some (⟨[.int .i64 nx, .sl (H.length + 2) 0 bs.length none], 0, .full⟩ : Blk) ∧ BxK (H.length + 2) J (H.length + 2) ps (grown bs i) ∧ ∀ (j : Nat) (x : AV), ps[j]? = some x → x.blk ≠ some (H.length + 3)) bs.length ⟨0, List.replicate bs.length .nils, rfl, by omega, by simp only [go_sem, Nat.reduceLT, Nat.reduceEqDiff, Nat.reduceAdd, Nat.reduceMul, Nat.reduceSub, Nat.reduceLeDiff, Int.reduceToNat, Int.reduceNeg, Int.reduceLT, Int.reduceLE, Int.reduceEq, reduceCtorEq]; rfl, Keep.app _ _ _, by simp, by simp, by simp, ?_, ?_⟩ ?_
  · have w0 := BxK.new (m := H.length + 2) (H ++ [(⟨[.int .i64 nx, boxE.lst bs], 0, .full⟩ : Blk), (⟨[.int .i64 0, .nils], 0, .full⟩ : Blk)]) bs.length (by simp) (st := .full) rfl
    have w1 := w0.keep (Keep.app none _ [(⟨[.int .i64 nx, .sl (H.length + 2) 0 bs.length none], 0, .full⟩ : Blk)])
    have e0 : grown bs 0 = List.replicate bs.length [] := by unfold grown; simp
    rw [e0]
    simpa using w1
  · intro j x hx
    rw [List.eq_of_mem_replicate (List.mem_of_getElem? hx)]; simp [AV.blk]
  rintro k fr' J A R hA hs hg hR ⟨i, ps, rfl, hi, f18, kJ, g0, g1, g3, W, hps⟩
  have s1 := hg 1 (by decide)
  have s2 := hg 2 (by decide)
  have s3 := hg 3 (by decide)
  have s16 := hg 16 (by decide)
  have s17 := hg 17 (by decide)
  simp only [Fr.get_put, Fr.get_init, List.getD_cons_zero, List.getD_cons_succ, Nat.reduceEqDiff, if_true, if_false] at s1 s2 s3 s16 s17
  refine wx_sound hT _ ?_
  by_cases hlt : i < bs.length
  rotate_left
  · have i5 : ¬ (i : Int) < bs.length := by omega
    have hie : i = bs.length := by omega
    have e0 : grown bs i = bs := by unfold grown; rw [hie]; simp
    rw [e0] at W
    have hJl := (List.getElem?_eq_some_iff.1 g3).1
    repeat' (first | simp only [go_sem, Nat.reduceLT, Nat.reduceEqDiff, Nat.reduceAdd, Nat.reduceMul, Nat.reduceSub, Nat.reduceLeDiff, Int.reduceToNat, Int.reduceNeg, Int.reduceLT, Int.reduceLE, Int.reduceEq, reduceCtorEq, Int.natCast_zero, Int.natCast_one, Int.cast_ofNat_Int, Bool.not_not, false_eq_decide, true_eq_decide, hread0, hreadk, read_cons0, read_consk, astore_h0, astore_hk, hget0, hgetk, hset0, hsetk, hlen, hcat, Nat.add_assoc, Nat.add_zero, Nat.zero_add, List.length_append, and_true, true_and, AV.flat, g3, get_app g3, read_get g3, read_app g3, g1, get_app g1, read_get g1, read_app g1, astore_get g1, astore_app g1, get_set g1, get_set_app g1, read_set g1, read_set_app g1, astore_set g1, astore_set_app g1, List.set_set, hget0s, hgetks, hread0s, hreadks, List.length_set, *, -hK, -hc, -hj, -hb, -W, -kJ, -g0, -hps, -hlt, -hie, -e0, -hJl] | with_reducible refine IfB_dec (fun h => ?_) (fun h => ?_) | with_reducible refine Guard_dec (fun h => ?_) (fun h => ?_) | with_reducible refine Guard_ndec (fun h => ?_) (fun h => ?_) | with_reducible refine Guard_not (fun h => ?_) (fun h => ?_) | with_reducible refine IfB_ndec (fun h => ?_) (fun h => ?_) | with_reducible refine IfB_not (fun h => ?_) (fun h => ?_) | with_reducible refine Guard_split (fun h => ?_) (fun h => ?_) | with_reducible refine IfB_split (fun h => ?_) (fun h => ?_))
    exact hK _ _ ⟨⟨_, ps, rfl, (W.low fun b hb _ => List.getElem?_set_ne (by omega)).mono (by omega)⟩, ⟨by simp; exact kJ.len, fun b hb _ => by rw [List.getElem?_set_ne (by omega)]; exact kJ.at_ b hb (by simp)⟩⟩
  have i5 : (i : Int) < bs.length := by omega
  have e3 := inc_id hlt (by omega)
  have e1 := at_enc (E := boxE) (T := T) (k := .i64) se22 hlt rfl
  rw [boxE_cells] at e1
  obtain ⟨hl1, hl2⟩ := hb _ (List.getElem_mem hlt)
  have hset := grown_set hlt
  have hset0 := grown_set0 hlt
  have hgi := grown_get hlt
  have hgl := grown_len (Nat.le_of_lt hlt)
  rw [← hset0] at W
  have back : ∀ fr2 J2 qs, A fr2 → fr2.get 18 = .int .i64 ((i + 1 : Nat) : Int) → Keep none H J2 → J2[H.length]? = some (⟨[.int .i64 nx, boxE.lst bs], 0, .full⟩ : Blk) → J2[H.length + 1]? = some (⟨[.int .i64 0, .nils], 0, .full⟩ : Blk) → J2[H.length + 3]? = some (⟨[.int .i64 nx, .sl (H.length + 2) 0 bs.length none], 0, .full⟩ : Blk) → BxK (H.length + 2) J2 (H.length + 2) qs ((grown bs i).set i bs[i]) → (∀ (j : Nat) (x : AV), qs[j]? = some x → x.blk ≠ some (H.length + 3)) → R fr2 J2 := fun fr2 J2 qs ha q1 q2 q3 q4 q5 q6 q7 => hR fr2 J2 ha (bs.length - (i + 1)) (by omega) ⟨i + 1, qs, rfl, by omega, q1, q2, q3, q4, q5, by rw [← hset]; exact q6, q7⟩
  clear hR hset hset0
  generalize bs[i] = l at *
  generalize grown bs i = G at *
  repeat' (first | simp only [go_sem, Nat.reduceLT, Nat.reduceEqDiff, Nat.reduceAdd, Nat.reduceMul, Nat.reduceSub, Nat.reduceLeDiff, Int.reduceToNat, Int.reduceNeg, Int.reduceLT, Int.reduceLE, Int.reduceEq, reduceCtorEq, Int.natCast_zero, Int.natCast_one, Int.cast_ofNat_Int, Bool.not_not, false_eq_decide, true_eq_decide, hread0, hreadk, read_cons0, read_consk, astore_h0, astore_hk, hget0, hgetk, hset0, hsetk, hlen, hcat, Nat.add_assoc, Nat.add_zero, Nat.zero_add, List.length_append, and_true, true_and, AV.flat, *, -hK, -hc, -hj, -hb, -W, -kJ, -g0, -g1, -g3, -hps, -hlt, -back, -hl1, -hl2, -hgi, -hgl] | with_reducible refine IfB_dec (fun h => ?_) (fun h => ?_) | with_reducible refine Guard_dec (fun h => ?_) (fun h => ?_) | with_reducible refine Guard_ndec (fun h => ?_) (fun h => ?_) | with_reducible refine Guard_not (fun h => ?_) (fun h => ?_) | with_reducible refine IfB_ndec (fun h => ?_) (fun h => ?_) | with_reducible refine IfB_not (fun h => ?_) (fun h => ?_) | with_reducible refine Guard_split (fun h => ?_) (fun h => ?_) | with_reducible refine IfB_split (fun h => ?_) (fun h => ?_))
  have hA0 := hA
  have o1 := s1
  have o2 := s2
  have o3 := s3
  have o16 := s16
  have o17 := s17
  refine WX_loopS [1, 2, 3, 16, 17, 18, 4, 23, 24] (fun k fr' J2 => ∃ (z : Nat) (qs : List AV), k = l.length - z ∧ z ≤ l.length ∧ fr'.get 25 = .int .i64 z ∧ Keep none H J2 ∧ J2[H.length]? = some (⟨[.int .i64 nx, boxE.lst bs], 0, .full⟩ : Blk) ∧ J2[H.length + 1]? = some (⟨[.int .i64 0, .nils], 0, .full⟩ : Blk) ∧ J2[H.length + 3]? = some (⟨[.int .i64 nx, .sl (H.length + 2) 0 bs.length none], 0, .full⟩ : Blk) ∧ BxK (H.length + 2) J2 (H.length + 2) qs (G.set i (l.take z)) ∧ (∀ (j : Nat) (x : AV), qs[j]? = some x → x.blk ≠ some (H.length + 3)) ∧ A fr') l.length ⟨0, ps, rfl, by omega, by simp only [go_sem, Nat.reduceLT, Nat.reduceEqDiff, Nat.reduceAdd, Nat.reduceMul, Nat.reduceSub, Nat.reduceLeDiff, Int.reduceToNat, Int.reduceNeg, Int.reduceLT, Int.reduceLE, Int.reduceEq, reduceCtorEq]; rfl, kJ, g0, g1, g3, W, hps, by (repeat (first | exact hs | refine hA _ _ _ (by decide) ?_))⟩ ?_
  clear hg hs hA s1 s2 s3 s16 s17 g0 g1 g3 kJ W hps
  rintro k fr' J2 A2 R2 hA hs hg hR2 ⟨z, qs, rfl, hz, f25, kJ, g0, g1, g3, W, hps, hAf⟩
  have s1 := hg 1 (by decide)
  have s2 := hg 2 (by decide)
  have s3 := hg 3 (by decide)
  have s16 := hg 16 (by decide)
  have s17 := hg 17 (by decide)
  have s18 := hg 18 (by decide)
  have s4 := hg 4 (by decide)
  have s23 := hg 23 (by decide)
  have s24 := hg 24 (by decide)
  simp only [Fr.get_put, Fr.get_init, List.getD_cons_zero, List.getD_cons_succ, Nat.reduceEqDiff, if_true, if_false] at s1 s2 s3 s16 s17 s18 s4 s23 s24
  rw [o1] at s1
  rw [o2] at s2
  rw [o3] at s3
  rw [o16] at s16
  rw [o17] at s17
  rw [f18] at s18
  clear o1 o2 o3 o16 o17 f18
  refine wx_sound hT _ ?_
  by_cases hlz : z < l.length
  rotate_left
  · have i6 : ¬ (z : Int) < l.length := by omega
    rw [List.take_of_length_le (by omega)] at W
    repeat' (first | simp only [go_sem, Nat.reduceLT, Nat.reduceEqDiff, Nat.reduceAdd, Nat.reduceMul, Nat.reduceSub, Nat.reduceLeDiff, Int.reduceToNat, Int.reduceNeg, Int.reduceLT, Int.reduceLE, Int.reduceEq, reduceCtorEq, Int.natCast_zero, Int.natCast_one, Int.cast_ofNat_Int, Bool.not_not, false_eq_decide, true_eq_decide, hread0, hreadk, read_cons0, read_consk, astore_h0, astore_hk, hget0, hgetk, hset0, hsetk, hlen, hcat, Nat.add_assoc, Nat.add_zero, Nat.zero_add, List.length_append, and_true, true_and, AV.flat, *, -hK, -hc, -hj, -hb, -W, -kJ, -g0, -g1, -g3, -hps, -back, -hl1, -hl2, -hgi, -hgl, -hlz] | with_reducible refine IfB_dec (fun h => ?_) (fun h => ?_) | with_reducible refine Guard_dec (fun h => ?_) (fun h => ?_) | with_reducible refine Guard_ndec (fun h => ?_) (fun h => ?_) | with_reducible refine Guard_not (fun h => ?_) (fun h => ?_) | with_reducible refine IfB_ndec (fun h => ?_) (fun h => ?_) | with_reducible refine IfB_not (fun h => ?_) (fun h => ?_) | with_reducible refine Guard_split (fun h => ?_) (fun h => ?_) | with_reducible refine IfB_split (fun h => ?_) (fun h => ?_))
    exact back _ _ qs (by repeat (first | exact hAf | refine hA0 _ _ _ (by decide) ?_)) (by simp only [go_sem, Nat.reduceLT, Nat.reduceEqDiff, Nat.reduceAdd, Nat.reduceMul, Nat.reduceSub, Nat.reduceLeDiff, Int.reduceToNat, Int.reduceNeg, Int.reduceLT, Int.reduceLE, Int.reduceEq, reduceCtorEq]) kJ g0 g1 g3 W hps
  have i6 : (z : Int) < l.length := by omega
  have e7 := inc_id hlz (by omega)
  have e4 := at_enc (E := tktE) (T := T) (k := .i64) se31 hlz rfl
  rw [tktE_cells] at e4
  obtain ⟨x, hx, hgx, ow, hxp⟩ := W.get (i := i) (by rw [List.length_set, hgl]; exact hlt)
  have hq1 := (hl2 _ (List.getElem_mem hlz)).1
  have c1 := fun J => one_own l[z] (by omega) J
  have hts := List.take_succ_eq_append_getElem hlz
  have hli : (G.set i (l.take z))[i]'(by rw [List.length_set, hgl]; exact hlt) = l.take z := List.getElem_set_self _
  rw [hli] at ow hgx
  clear hli
  have hzl : (l.take z).length = z := by rw [List.length_take]; omega
  have back2 : ∀ fr2 J3 qs2, A2 fr2 → fr2.get 25 = .int .i64 ((z + 1 : Nat) : Int) → Keep none H J3 → J3[H.length]? = some (⟨[.int .i64 nx, boxE.lst bs], 0, .full⟩ : Blk) → J3[H.length + 1]? = some (⟨[.int .i64 0, .nils], 0, .full⟩ : Blk) → J3[H.length + 3]? = some (⟨[.int .i64 nx, .sl (H.length + 2) 0 bs.length none], 0, .full⟩ : Blk) → BxK (H.length + 2) J3 (H.length + 2) qs2 (G.set i (l.take z ++ [l[z]])) → (∀ (j : Nat) (x : AV), qs2[j]? = some x → x.blk ≠ some (H.length + 3)) → A fr2 → R2 fr2 J3 := fun fr2 J3 qs2 ha j1 j2 j3 j4 j5 j6 j7 j8 => hR2 fr2 J3 ha (l.length - (z + 1)) (by omega) ⟨z + 1, qs2, rfl, by omega, j1, j2, j3, j4, j5, by rw [hts]; exact j6, j7, j8⟩
  clear hR2 back hl2 hb hts
  generalize l.take z = ll at *
  generalize l[z] = t at *
  have hxo := ow.one
  have hJl := (List.getElem?_eq_some_iff.1 g3).1
  have ad := BxO.addr (p := H.length + 2) (T' := T) se22 hlt
  unfold Tkt.av Tkt.avK at c1
  have rd := (W.keep (Keep.app none J2 [(⟨t.cs, 0, .full⟩ : Blk)])).read hx
  unfold Tkt.cs at rd
  have g4 := get_app g3 [(⟨t.cs, 0, .full⟩ : Blk)]
  unfold Tkt.cs at g4
  repeat' (first | simp only [go_sem, Nat.reduceLT, Nat.reduceEqDiff, Nat.reduceAdd, Nat.reduceMul, Nat.reduceSub, Nat.reduceLeDiff, Int.reduceToNat, Int.reduceNeg, Int.reduceLT, Int.reduceLE, Int.reduceEq, reduceCtorEq, Int.natCast_zero, Int.natCast_one, Int.cast_ofNat_Int, Bool.not_not, false_eq_decide, true_eq_decide, hread0, hreadk, read_cons0, read_consk, astore_h0, astore_hk, hget0, hgetk, hset0, hsetk, hlen, hcat, Nat.add_assoc, Nat.add_zero, Nat.zero_add, List.length_append, and_true, true_and, AV.flat, g4, get_app g4, read_get g4, read_app g4, hxo, one_solid hxo, one_cells hxo, *, -hK, -hc, -hj, -W, -kJ, -g0, -g1, -g3, -hps, -back2, -hl1, -hgi, -hgl, -hx, -hgx, -ow, -hxp, -hq1, -c1, -hzl, -hJl] | with_reducible refine IfB_dec (fun h => ?_) (fun h => ?_) | with_reducible refine Guard_dec (fun h => ?_) (fun h => ?_) | with_reducible refine Guard_ndec (fun h => ?_) (fun h => ?_) | with_reducible refine Guard_not (fun h => ?_) (fun h => ?_) | with_reducible refine IfB_ndec (fun h => ?_) (fun h => ?_) | with_reducible refine IfB_not (fun h => ?_) (fun h => ?_) | with_reducible refine Guard_split (fun h => ?_) (fun h => ?_) | with_reducible refine IfB_split (fun h => ?_) (fun h => ?_))
  refine WX_rows hT hmix [(0, none), (1, none), (2, none), (3, none), (4, none), (5, none), (6, none), (7, none), (8, none), (9, some [true, false, false, false, false, false, false, false, false]), (10, none), (11, some [true, true, true, true, true, true, true, true, false, false, false]), (12, none), (13, some [true, true, true, true, true, true, true, true, true, true, true, true, true])] (by kernel_rfl) ?_
  repeat' (first | simp only [go_sem, Nat.reduceLT, Nat.reduceEqDiff, Nat.reduceAdd, Nat.reduceMul, Nat.reduceSub, Nat.reduceLeDiff, Int.reduceToNat, Int.reduceNeg, Int.reduceLT, Int.reduceLE, Int.reduceEq, reduceCtorEq, Int.natCast_zero, Int.natCast_one, Int.cast_ofNat_Int, Bool.not_not, false_eq_decide, true_eq_decide, hread0, hreadk, read_cons0, read_consk, astore_h0, astore_hk, hget0, hgetk, hset0, hsetk, hlen, hcat, Nat.add_assoc, Nat.add_zero, Nat.zero_add, List.length_append, and_true, true_and, AV.flat, g4, get_app g4, read_get g4, read_app g4, hxo, one_solid hxo, one_cells hxo, *, -hK, -hc, -hj, -W, -kJ, -g0, -g1, -g3, -hps, -back2, -hl1, -hgi, -hgl, -hx, -hgx, -ow, -hxp, -hq1, -c1, -hzl, -hJl] | with_reducible refine IfB_dec (fun h => ?_) (fun h => ?_) | with_reducible refine Guard_dec (fun h => ?_) (fun h => ?_) | with_reducible refine Guard_ndec (fun h => ?_) (fun h => ?_) | with_reducible refine Guard_not (fun h => ?_) (fun h => ?_) | with_reducible refine IfB_ndec (fun h => ?_) (fun h => ?_) | with_reducible refine IfB_not (fun h => ?_) (fun h => ?_) | with_reducible refine Guard_split (fun h => ?_) (fun h => ?_) | with_reducible refine IfB_split (fun h => ?_) (fun h => ?_))
  refine (c1 _).mono ?_
  rintro _ Jk ⟨⟨kv, rfl, okv⟩, kk0⟩
  have hkv := okv.one
  replace g3 := kk0.get (get_app g3 [(⟨t.cs, 0, .full⟩ : Blk)]) (by simp)
  have g7 : Jk[J2.length]? = some (⟨t.cs, 0, .full⟩ : Blk) := kk0.get (by simp; rfl) (by simp)
  have kJk : Keep none J2 Jk := (Keep.app none J2 _).trans kk0
  replace g0 := kJk.get g0 (by simp)
  replace g1 := kJk.get g1 (by simp)
  have hjk : J2.length + 1 ≤ Jk.length := by have := kk0.len; simpa using this
  have hxl : ∀ b, x.blk = some b → b < J2.length := fun b hb => ow.lt hb
  replace W := W.keep kJk
  replace kJ := kJ.trans kJk
  replace ow := ow.keep0 kJk
  have okg : ∀ b, kv.blk = some b → J2.length + 1 ≤ b := fun b hb => by have := okv.ge hb; simpa using this
  have okp : kv.blk ≠ some (H.length + 2) := fun e => by have := okg _ e; omega
  have okk : OwnE Enc.str (H.length + 2) Jk kv t.cmd.keys := Own.mono okv (by simp; omega)
  obtain ⟨rs, owr, hrl, hpush⟩ := ow.push (t := t) ⟨okk, okp⟩
  have hJl2 := (List.getElem?_eq_some_iff.1 g3).1
  have rd2 := W.read hx
  clear rd okv kk0 kJk c1
  repeat' (first | simp only [go_sem, Nat.reduceLT, Nat.reduceEqDiff, Nat.reduceAdd, Nat.reduceMul, Nat.reduceSub, Nat.reduceLeDiff, Int.reduceToNat, Int.reduceNeg, Int.reduceLT, Int.reduceLE, Int.reduceEq, reduceCtorEq, Int.natCast_zero, Int.natCast_one, Int.cast_ofNat_Int, Bool.not_not, false_eq_decide, true_eq_decide, hread0, hreadk, read_cons0, read_consk, astore_h0, astore_hk, hget0, hgetk, hset0, hsetk, hlen, hcat, Nat.add_assoc, Nat.add_zero, Nat.zero_add, List.length_append, and_true, true_and, AV.flat, g3, get_app g3, read_get g3, read_app g3, hxo, one_solid hxo, one_cells hxo, hkv, one_solid hkv, one_cells hkv, *, -hK, -hc, -hj, -W, -kJ, -g0, -g1, -hps, -back2, -hl1, -hgi, -hgl, -hx, -hgx, -ow, -hxp, -hq1, -hzl, -hJl, -g7, -hjk, -hxl, -okg, -okp, -okk, -owr, -hrl, -hpush, -hJl2] | with_reducible refine IfB_dec (fun h => ?_) (fun h => ?_) | with_reducible refine Guard_dec (fun h => ?_) (fun h => ?_) | with_reducible refine Guard_ndec (fun h => ?_) (fun h => ?_) | with_reducible refine Guard_not (fun h => ?_) (fun h => ?_) | with_reducible refine IfB_ndec (fun h => ?_) (fun h => ?_) | with_reducible refine IfB_not (fun h => ?_) (fun h => ?_) | with_reducible refine Guard_split (fun h => ?_) (fun h => ?_) | with_reducible refine IfB_split (fun h => ?_) (fun h => ?_))
  refine append_own (k := 1) (xs := t.csK kv) (owr.keep0 (Keep.app none Jk [(⟨t.csK kv, 12, .full⟩ : Blk)])) se31 az38 td38 (asrc_sl tk31 (Vs.sl (vs_at (st := .full) (by rw [hget0]; rfl) rfl rfl))) rfl (by decide) (by rw [rowK_length]; show (rs.length * 12 + 12) * 120 ≤ _; omega) (by rw [rowK_length]; show rs.length * 12 + 12 ≤ _; omega) (by simp; omega) ?_
  intro v2 J3 ov2 k2 hn2
  have hv2 := ov2.one
  have o2 : OwnK (H.length + 2) J3 (H.length + 2) v2 (ll ++ [t]) := hpush v2 J3 _ ov2 k2
  have hz2 := fun b (hb : v2.blk = some b) => hn2 b hb
  have z3 := k2.get (get_app g3 _) (hps i x hx)
  have z4 : J3[J2.length]? = some (⟨t.cs, 0, .full⟩ : Blk) := k2.get (get_app g7 _) (fun e => by have := hxl _ e; omega)
  unfold Tkt.cs at z4
  have hp3 : J3[H.length + 2]? = Jk[H.length + 2]? := by rw [k2.at_ _ (by have := W.lt; simp; omega) (fun e => hxp e), List.getElem?_append_left W.lt]
  have rd3 : J3.read (H.length + 2) i 1 = some [x] := by have := W.read hx; unfold Heap.read at this ⊢; rw [hp3]; exact this
  obtain ⟨sq1, sq2⟩ := o2.sc
  obtain ⟨st, rest, hst, w1⟩ := W.store (T' := T) hx hp3 (te := 31) (by simp only [asize, td31, Option.map_some]) sq1 sq2
  have kk : Keep x.blk Jk J3 := (Keep.weak (Keep.app none Jk _)).trans k2
  have W2 := W.upd hx hgx kk o2 (fun b hb => (hn2 b hb).imp id (fun h => by simp only [List.length_append] at h; omega)) rest st hst
  rw [List.set_set] at W2
  have hJ3 : H.length + 4 ≤ J3.length := by have := k2.len; simp only [List.length_append] at this; omega
  have y0 : J3[H.length]? = some (⟨[.int .i64 nx, boxE.lst bs], 0, .full⟩ : Blk) := kk.get g0 (fun e => by have := ow.ge e; omega)
  have y1 : J3[H.length + 1]? = some (⟨[.int .i64 0, .nils], 0, .full⟩ : Blk) := kk.get g1 (fun e => by have := ow.ge e; omega)
  have kJ3 : Keep none H (List.set J3 (H.length + 2) ⟨qs.set i v2 ++ rest, 1, st⟩) := ⟨by rw [List.length_set]; omega, fun b hb _ => by
    rw [List.getElem?_set_ne (by omega), kk.at_ _ (by omega) (fun e => by have := ow.ge e; omega)]; exact kJ.at_ b hb (by simp)⟩
  have hps2 : ∀ (j : Nat) (z : AV), (qs.set i v2)[j]? = some z → z.blk ≠ some (H.length + 3) := fun j z hz => by
    by_cases e : i = j
    · subst e
      rw [List.getElem?_set_self (List.getElem?_eq_some_iff.1 hx).1] at hz
      cases hz
      intro e2
      rcases hn2 _ e2 with h | h
      · exact hps i x hx h
      · simp only [List.length_append] at h; omega
    · rw [List.getElem?_set_ne e] at hz
      exact hps j z hz
  generalize hG3 : (List.set J3 (H.length + 2) ⟨qs.set i v2 ++ rest, 1, st⟩ : Heap) = J4 at *
  have y4 : J4[H.length]? = some (⟨[.int .i64 nx, boxE.lst bs], 0, .full⟩ : Blk) := by rw [← hG3, List.getElem?_set_ne (by omega)]; exact y0
  have y5 : J4[H.length + 1]? = some (⟨[.int .i64 0, .nils], 0, .full⟩ : Blk) := by rw [← hG3, List.getElem?_set_ne (by omega)]; exact y1
  have y6 : J4[H.length + 3]? = some (⟨[.int .i64 nx, .sl (H.length + 2) 0 bs.length none], 0, .full⟩ : Blk) := by rw [← hG3, List.getElem?_set_ne (by omega)]; exact z3
  clear hG3 k2 hn2 kk y0 y1 o2 ov2 hz2 W rd2 hst hp3 hps owr hpush okk okp ow
  repeat' (first | simp only [go_sem, Nat.reduceLT, Nat.reduceEqDiff, Nat.reduceAdd, Nat.reduceMul, Nat.reduceSub, Nat.reduceLeDiff, Int.reduceToNat, Int.reduceNeg, Int.reduceLT, Int.reduceLE, Int.reduceEq, reduceCtorEq, Int.natCast_zero, Int.natCast_one, Int.cast_ofNat_Int, Bool.not_not, false_eq_decide, true_eq_decide, hread0, hreadk, read_cons0, read_consk, astore_h0, astore_hk, hget0, hgetk, hset0, hsetk, hlen, hcat, Nat.add_assoc, Nat.add_zero, Nat.zero_add, List.length_append, and_true, true_and, AV.flat, z3, get_app z3, read_get z3, read_app z3, z4, get_app z4, read_get z4, read_app z4, hxo, one_solid hxo, one_cells hxo, hv2, one_solid hv2, one_cells hv2, hkv, one_solid hkv, one_cells hkv, *, -hK, -hc, -hj, -kJ, -g0, -g1, -g3, -back2, -hl1, -hgi, -hgl, -hx, -hgx, -hxp, -hq1, -hzl, -hJl, -g7, -hjk, -hxl, -okg, -hrl, -hJl2, -W2, -kJ3, -hps2, -y4, -y5, -y6, -hJ3] | with_reducible refine IfB_dec (fun h => ?_) (fun h => ?_) | with_reducible refine Guard_dec (fun h => ?_) (fun h => ?_) | with_reducible refine Guard_ndec (fun h => ?_) (fun h => ?_) | with_reducible refine Guard_not (fun h => ?_) (fun h => ?_) | with_reducible refine IfB_ndec (fun h => ?_) (fun h => ?_) | with_reducible refine IfB_not (fun h => ?_) (fun h => ?_) | with_reducible refine Guard_split (fun h => ?_) (fun h => ?_) | with_reducible refine IfB_split (fun h => ?_) (fun h => ?_))
  exact back2 _ _ _ (by (repeat (first | exact hs | refine hA _ _ _ (by decide) ?_))) (by simp only [go_sem, Nat.reduceLT, Nat.reduceEqDiff, Nat.reduceAdd, Nat.reduceMul, Nat.reduceSub, Nat.reduceLeDiff, Int.reduceToNat, Int.reduceNeg, Int.reduceLT, Int.reduceLE, Int.reduceEq, reduceCtorEq]) kJ3 y4 y5 y6 W2 hps2 (by repeat (first | exact hAf | refine hA0 _ _ _ (by decide) ?_))
open Go Go.Proofs Go.Proofs.PI
def QO (m : Nat) (H : Heap) (v : AV) (bx : List (List Tkt)) : Prop := (v = .nils ∧ bx = []) ∨ ∃ p qs, v = .sl p 0 bx.length none ∧ TlO3 m H p qs bx
section
variable {m p : Nat} {H G : Heap} {ps : List AV} {l : List (List Tkt)}
theorem BxK.tl3 (o : BxK m H p ps l) : TlO3 m H p ps l := ⟨o.len, o.ge, o.blk, fun i x t hx ht => TlK.of (o.el i x t hx ht).1 (o.el i x t hx ht).2⟩
theorem BxK.other0 (o : BxK m H p ps l) (h : ∀ (b : Nat) (c : List AV) (sz : Nat) (st : St), m ≤ b → H[b]? = some (⟨c, sz, st⟩ : Blk) → sz ≠ 0 → G[b]? = H[b]?) : BxK m G p ps l := by
  refine ⟨o.len, o.ge, ?_, fun i x t hx ht => ?_, o.dis⟩
  · obtain ⟨st, rest, h1, h2⟩ := o.blk
    exact ⟨st, rest, by rw [h p _ _ _ o.ge h1 (by decide)]; exact h1, h2⟩
  · obtain ⟨g1, g2⟩ := o.el i x t hx ht
    refine ⟨g1.same (fun b hb => ?_) (fun b h1 _ h3 _ => ?_), g2⟩
    · obtain ⟨c, st, e, _⟩ := g1.esz hb
      exact h b _ _ _ (g1.ge hb) e (by decide)
    · obtain ⟨c, st, e⟩ := h3
      exact h b _ _ _ h1 e (by decide)
end
theorem put3 (q : Que) (t : Tkt) (hb : qFit q.bx) (hn : t.cmd.keys.length ≤ 1000) (hks : ∀ k ∈ t.cmd.keys, k.length ≤ 100000) (H : Heap) :
    WC Try.prog 11 [q.av, t.av] H fun r H' => (∃ v, r = .tup [.agg [.int .i64 (putR q t).1.next, v], .int .i64 (putR q t).2.1, .int .i64 (putR q t).2.2] ∧ QO H.length H' v (putR q t).1.bx) ∧ Keep none H H' := by
  refine WC_of_K fun K hK => ?_
  have ck := fun J => tcheck_spec q hb J
  have my := fun J => tmay_spec t hn J
  by_cases hq : q.may
  rotate_left
  · rw [queE_bad hq] at ck
    rw [show putR q t = (que0, 0, 8) by unfold putR; rw [if_pos hq]] at hK
    unfold Que.av Tkt.av at *
    refine WC_of_body hT Try.func11 rfl (by simp [Try.f11]) (by simp [Try.f11]) (wx_sound hT _ ?_)
    simp only [Try.f11]
    repeat' (first | simp only [go_sem, Nat.reduceLT, Nat.reduceEqDiff, Nat.reduceAdd, Nat.reduceMul, Nat.reduceSub, Nat.reduceLeDiff, Int.reduceToNat, Int.reduceNeg, Int.reduceLT, Int.reduceLE, Int.reduceEq, reduceCtorEq, Int.natCast_zero, Int.natCast_one, Int.cast_ofNat_Int, Bool.not_not, false_eq_decide, true_eq_decide, hread0, hreadk, read_cons0, read_consk, astore_h0, astore_hk, hget0, hgetk, hset0, hsetk, hlen, hcat, Nat.add_assoc, Nat.add_zero, Nat.zero_add, List.length_append, and_true, true_and, AV.flat, *, -hK, -ck, -my, -hq, -hb, -hks] | refine WC.call (ck _) ?_ | with_reducible refine IfB_dec (fun h => ?_) (fun h => ?_) | with_reducible refine Guard_dec (fun h => ?_) (fun h => ?_) | with_reducible refine Guard_ndec (fun h => ?_) (fun h => ?_) | with_reducible refine Guard_not (fun h => ?_) (fun h => ?_) | with_reducible refine IfB_ndec (fun h => ?_) (fun h => ?_) | with_reducible refine IfB_not (fun h => ?_) (fun h => ?_) | with_reducible refine Guard_split (fun h => ?_) (fun h => ?_) | with_reducible refine IfB_split (fun h => ?_) (fun h => ?_))
    exact hK _ _ ⟨⟨_, rfl, .inl ⟨rfl, rfl⟩⟩, Keep.app _ _ _⟩
  rw [queE_ok hq] at ck
  cases hm : t.mayB with
  | false =>
    rw [hm] at my
    rw [show putR q t = (que0, 0, 8) by unfold putR; rw [if_neg (not_not_intro hq), if_pos hm]] at hK
    unfold Que.av Tkt.av at *
    refine WC_of_body hT Try.func11 rfl (by simp [Try.f11]) (by simp [Try.f11]) (wx_sound hT _ ?_)
    simp only [Try.f11]
    repeat' (first | simp only [go_sem, Nat.reduceLT, Nat.reduceEqDiff, Nat.reduceAdd, Nat.reduceMul, Nat.reduceSub, Nat.reduceLeDiff, Int.reduceToNat, Int.reduceNeg, Int.reduceLT, Int.reduceLE, Int.reduceEq, reduceCtorEq, Int.natCast_zero, Int.natCast_one, Int.cast_ofNat_Int, Bool.not_not, false_eq_decide, true_eq_decide, hread0, hreadk, read_cons0, read_consk, astore_h0, astore_hk, hget0, hgetk, hset0, hsetk, hlen, hcat, Nat.add_assoc, Nat.add_zero, Nat.zero_add, List.length_append, and_true, true_and, AV.flat, *, -hK, -ck, -my, -hq, -hb, -hks, -hm] | refine WC.call (ck _) ?_ | refine WC.call (my _) ?_ | with_reducible refine IfB_dec (fun h => ?_) (fun h => ?_) | with_reducible refine Guard_dec (fun h => ?_) (fun h => ?_) | with_reducible refine Guard_ndec (fun h => ?_) (fun h => ?_) | with_reducible refine Guard_not (fun h => ?_) (fun h => ?_) | with_reducible refine IfB_ndec (fun h => ?_) (fun h => ?_) | with_reducible refine IfB_not (fun h => ?_) (fun h => ?_) | with_reducible refine Guard_split (fun h => ?_) (fun h => ?_) | with_reducible refine IfB_split (fun h => ?_) (fun h => ?_))
    exact hK _ _ ⟨⟨_, rfl, .inl ⟨rfl, rfl⟩⟩, Keep.app _ _ _⟩
  | true =>
  rw [hm] at my
  have hpu : putR q t = if q.next = 1099511627776 ∨ fullB q t = true then (que0, 0, 9) else (⟨q.next + 1, putBx q.bx (t.at_ q.next) (shardsL t q.bx.length)⟩, q.next, 0) := by
    unfold putR; rw [if_neg (not_not_intro hq), if_neg (by rw [hm]; decide)]
  rw [hpu] at hK
  clear hpu
  have sh := fun J => tshards_spec t q.bx.length hq.2.1 hn hks J
  have tw := fun J => twin3 q hb.1 hb J
  have hl4 := hq.2.1
  have hnx := hq.2.2.1
  have hnm := hq.2.2.2.1
  have hall : ∀ l ∈ q.bx, l.length ≤ 256 := fun l hl => (hq.2.2.2.2 l hl).1
  have hsl := shardsL_len t q.bx.length
  obtain ⟨nx, bs⟩ := q
  simp only at hl4 hnx hnm hall hK sh hsl
  have cl := fun (J : Heap) (g0 : J[H.length]? = some ⟨[.int .i64 nx, boxE.lst bs], 0, .full⟩) =>
    iHasF_spec (shardsL t bs.length) 34 [.ptr H.length 0] (fun j => decide (((bs[j.toNat]?.getD []).length : Int) = 256)) (by omega) J (fun j hj => by
      obtain ⟨k, rfl, hk⟩ := shardsL_lt hj
      have hh : (bs[(k : Int).toNat]?.getD []) = bs[k] := by rw [Int.toNat_natCast, List.getElem?_eq_getElem hk]; rfl
      rw [hh]
      exact putF_spec nx bs k hk H.length J g0)
  rw [show ((shardsL t bs.length).any fun j => decide (((bs[j.toNat]?.getD []).length : Int) = 256)) = fullB ⟨nx, bs⟩ t from rfl] at cl
  have hlt := fun j (hj : j ∈ shardsL t bs.length) => shardsL_lt hj
  have hple := fun js => putBx_le (t.at_ nx) js 256 bs hall
  have hplen := fun js => putBx_length bs (t.at_ nx) js
  have hpst := fun js k => putBx_snoc bs (t.at_ nx) js k
  have hp0 : putBx bs (t.at_ nx) [] = bs := rfl
  clear hall hq
  generalize putBx bs (t.at_ nx) = pb at *
  generalize fullB ⟨nx, bs⟩ t = fb at *
  generalize shardsL t bs.length = js at *
  clear hm
  unfold Que.av Tkt.av at *
  simp only at ck tw
  by_cases i1 : nx = 1099511627776
  · subst i1
    rw [if_pos (.inl rfl)] at hK
    simp only at hK
    refine WC_of_body hT Try.func11 rfl (by simp [Try.f11]) (by simp [Try.f11]) (wx_sound hT _ ?_)
    simp only [Try.f11]
    repeat' (first | simp only [go_sem, Nat.reduceLT, Nat.reduceEqDiff, Nat.reduceAdd, Nat.reduceMul, Nat.reduceSub, Nat.reduceLeDiff, Int.reduceToNat, Int.reduceNeg, Int.reduceLT, Int.reduceLE, Int.reduceEq, reduceCtorEq, Int.natCast_zero, Int.natCast_one, Int.cast_ofNat_Int, Bool.not_not, false_eq_decide, true_eq_decide, hread0, hreadk, read_cons0, read_consk, astore_h0, astore_hk, hget0, hgetk, hset0, hsetk, hlen, hcat, Nat.add_assoc, Nat.add_zero, Nat.zero_add, List.length_append, and_true, true_and, AV.flat, *, -hK, -ck, -my, -hb, -hks, -sh, -cl, -tw, -hlt, -hple, -hplen, -hpst, -hp0] | refine WC.call (ck _) ?_ | refine WC.call (my _) ?_ | refine WC.call (sh _) ?_ | with_reducible refine IfB_dec (fun h => ?_) (fun h => ?_) | with_reducible refine Guard_dec (fun h => ?_) (fun h => ?_) | with_reducible refine Guard_ndec (fun h => ?_) (fun h => ?_) | with_reducible refine Guard_not (fun h => ?_) (fun h => ?_) | with_reducible refine IfB_ndec (fun h => ?_) (fun h => ?_) | with_reducible refine IfB_not (fun h => ?_) (fun h => ?_) | with_reducible refine Guard_split (fun h => ?_) (fun h => ?_) | with_reducible refine IfB_split (fun h => ?_) (fun h => ?_))
    exact hK _ _ ⟨⟨_, rfl, .inl ⟨rfl, rfl⟩⟩, Keep.app _ _ _⟩
  cases fb with
  | true =>
    rw [if_pos (.inr rfl)] at hK
    simp only at hK
    refine WC_of_body hT Try.func11 rfl (by simp [Try.f11]) (by simp [Try.f11]) (wx_sound hT _ ?_)
    simp only [Try.f11]
    repeat' (first | simp only [go_sem, Nat.reduceLT, Nat.reduceEqDiff, Nat.reduceAdd, Nat.reduceMul, Nat.reduceSub, Nat.reduceLeDiff, Int.reduceToNat, Int.reduceNeg, Int.reduceLT, Int.reduceLE, Int.reduceEq, reduceCtorEq, Int.natCast_zero, Int.natCast_one, Int.cast_ofNat_Int, Bool.not_not, false_eq_decide, true_eq_decide, hread0, hreadk, read_cons0, read_consk, astore_h0, astore_hk, hget0, hgetk, hset0, hsetk, hlen, hcat, Nat.add_assoc, Nat.add_zero, Nat.zero_add, List.length_append, and_true, true_and, AV.flat, *, -hK, -ck, -my, -hb, -hks, -sh, -cl, -tw, -hlt, -hple, -hplen, -hpst, -hp0] | refine WC.call (ck _) ?_ | refine WC.call (my _) ?_ | refine WC.call (sh _) ?_ | with_reducible refine IfB_dec (fun h => ?_) (fun h => ?_) | with_reducible refine Guard_dec (fun h => ?_) (fun h => ?_) | with_reducible refine Guard_ndec (fun h => ?_) (fun h => ?_) | with_reducible refine Guard_not (fun h => ?_) (fun h => ?_) | with_reducible refine IfB_ndec (fun h => ?_) (fun h => ?_) | with_reducible refine IfB_not (fun h => ?_) (fun h => ?_) | with_reducible refine Guard_split (fun h => ?_) (fun h => ?_) | with_reducible refine IfB_split (fun h => ?_) (fun h => ?_))
    refine (cl _ (by rw [hget0]; rfl)).mono ?_
    rintro _ _ ⟨rfl, rfl⟩
    repeat' (first | simp only [go_sem, Nat.reduceLT, Nat.reduceEqDiff, Nat.reduceAdd, Nat.reduceMul, Nat.reduceSub, Nat.reduceLeDiff, Int.reduceToNat, Int.reduceNeg, Int.reduceLT, Int.reduceLE, Int.reduceEq, reduceCtorEq, Int.natCast_zero, Int.natCast_one, Int.cast_ofNat_Int, Bool.not_not, false_eq_decide, true_eq_decide, hread0, hreadk, read_cons0, read_consk, astore_h0, astore_hk, hget0, hgetk, hset0, hsetk, hlen, hcat, Nat.add_assoc, Nat.add_zero, Nat.zero_add, List.length_append, and_true, true_and, AV.flat, *, -hK, -ck, -my, -hb, -hks, -sh, -cl, -tw, -hlt, -hple, -hplen, -hpst, -hp0] | with_reducible refine IfB_dec (fun h => ?_) (fun h => ?_) | with_reducible refine Guard_dec (fun h => ?_) (fun h => ?_) | with_reducible refine Guard_ndec (fun h => ?_) (fun h => ?_) | with_reducible refine Guard_not (fun h => ?_) (fun h => ?_) | with_reducible refine IfB_ndec (fun h => ?_) (fun h => ?_) | with_reducible refine IfB_not (fun h => ?_) (fun h => ?_) | with_reducible refine Guard_split (fun h => ?_) (fun h => ?_) | with_reducible refine IfB_split (fun h => ?_) (fun h => ?_))
    exact hK _ _ ⟨⟨_, rfl, .inl ⟨rfl, rfl⟩⟩, Keep.app _ _ _⟩
  | false =>
  rw [if_neg (by simp [i1])] at hK
  simp only at hK
  refine WC_of_body hT Try.func11 rfl (by simp [Try.f11]) (by simp [Try.f11]) (wx_sound hT _ ?_)
  simp only [Try.f11]
  repeat' (first | simp only [go_sem, Nat.reduceLT, Nat.reduceEqDiff, Nat.reduceAdd, Nat.reduceMul, Nat.reduceSub, Nat.reduceLeDiff, Int.reduceToNat, Int.reduceNeg, Int.reduceLT, Int.reduceLE, Int.reduceEq, reduceCtorEq, Int.natCast_zero, Int.natCast_one, Int.cast_ofNat_Int, Bool.not_not, false_eq_decide, true_eq_decide, hread0, hreadk, read_cons0, read_consk, astore_h0, astore_hk, hget0, hgetk, hset0, hsetk, hlen, hcat, Nat.add_assoc, Nat.add_zero, Nat.zero_add, List.length_append, and_true, true_and, AV.flat, *, -hK, -ck, -my, -hb, -hks, -sh, -cl, -tw, -hlt, -hple, -hplen, -hpst, -hp0] | refine WC.call (ck _) ?_ | refine WC.call (my _) ?_ | refine WC.call (sh _) ?_ | with_reducible refine IfB_dec (fun h => ?_) (fun h => ?_) | with_reducible refine Guard_dec (fun h => ?_) (fun h => ?_) | with_reducible refine Guard_ndec (fun h => ?_) (fun h => ?_) | with_reducible refine Guard_not (fun h => ?_) (fun h => ?_) | with_reducible refine IfB_ndec (fun h => ?_) (fun h => ?_) | with_reducible refine IfB_not (fun h => ?_) (fun h => ?_) | with_reducible refine Guard_split (fun h => ?_) (fun h => ?_) | with_reducible refine IfB_split (fun h => ?_) (fun h => ?_))
  refine (cl _ (by rw [hget0]; rfl)).mono ?_
  rintro _ _ ⟨rfl, rfl⟩
  clear ck my sh cl
  repeat' (first | simp only [go_sem, Nat.reduceLT, Nat.reduceEqDiff, Nat.reduceAdd, Nat.reduceMul, Nat.reduceSub, Nat.reduceLeDiff, Int.reduceToNat, Int.reduceNeg, Int.reduceLT, Int.reduceLE, Int.reduceEq, reduceCtorEq, Int.natCast_zero, Int.natCast_one, Int.cast_ofNat_Int, Bool.not_not, false_eq_decide, true_eq_decide, hread0, hreadk, read_cons0, read_consk, astore_h0, astore_hk, hget0, hgetk, hset0, hsetk, hlen, hcat, Nat.add_assoc, Nat.add_zero, Nat.zero_add, List.length_append, and_true, true_and, AV.flat, *, -hK, -hb, -hks, -tw, -hlt, -hple, -hplen, -hpst, -hp0] | with_reducible refine IfB_dec (fun h => ?_) (fun h => ?_) | with_reducible refine Guard_dec (fun h => ?_) (fun h => ?_) | with_reducible refine Guard_ndec (fun h => ?_) (fun h => ?_) | with_reducible refine Guard_not (fun h => ?_) (fun h => ?_) | with_reducible refine IfB_ndec (fun h => ?_) (fun h => ?_) | with_reducible refine IfB_not (fun h => ?_) (fun h => ?_) | with_reducible refine Guard_split (fun h => ?_) (fun h => ?_) | with_reducible refine IfB_split (fun h => ?_) (fun h => ?_))
  refine (tw _).mono ?_
  rintro _ H1 ⟨⟨p, ps, rfl, W⟩, kH⟩
  clear tw
  simp only [List.length_append, List.length_cons, List.length_nil, Nat.zero_add, Nat.reduceAdd] at W
  have hH1 : H.length + 3 ≤ H1.length := by have := kH.len; simpa using this
  have y0 : H1[H.length]? = some (⟨[.int .i64 nx, boxE.lst bs], 0, .full⟩ : Blk) := kH.get (by rw [hget0]; rfl) (by simp)
  have y1 : H1[H.length + 1]? = some (⟨[.int .i64 t.num, .int .u8 t.kind, .int .u8 t.cmd.kind, .int .i64 t.cmd.ten, Enc.str.lst t.cmd.keys, .str t.cmd.val, .int .u32 t.cmd.flags, .int .i64 t.cmd.for_, .int .u64 t.cmd.uniq, .int .u64 t.cmd.by_, .int .i64 t.ten, .int .i64 t.to], 0, .full⟩ : Blk) := kH.get (by rw [hgetk]; rfl) (by simp)
  have y2 : H1[H.length + 2]? = some (⟨[.int .i64 0, .nils], 0, .full⟩ : Blk) := kH.get (by rw [hgetk]; rfl) (by simp)
  have z0 := get_app y0 [(⟨[.int .i64 nx, .sl p 0 bs.length none], 0, .full⟩ : Blk)]
  have z1 := get_app y1 [(⟨[.int .i64 nx, .sl p 0 bs.length none], 0, .full⟩ : Blk)]
  repeat' (first | simp only [go_sem, Nat.reduceLT, Nat.reduceEqDiff, Nat.reduceAdd, Nat.reduceMul, Nat.reduceSub, Nat.reduceLeDiff, Int.reduceToNat, Int.reduceNeg, Int.reduceLT, Int.reduceLE, Int.reduceEq, reduceCtorEq, Int.natCast_zero, Int.natCast_one, Int.cast_ofNat_Int, Bool.not_not, false_eq_decide, true_eq_decide, hread0, hreadk, read_cons0, read_consk, astore_h0, astore_hk, hget0, hgetk, hset0, hsetk, hlen, hcat, Nat.add_assoc, Nat.add_zero, Nat.zero_add, List.length_append, and_true, true_and, AV.flat, z0, get_app z0, read_get z0, read_app z0, z1, get_app z1, read_get z1, read_app z1, astore_get z1, astore_app z1, get_set z1, get_set_app z1, read_set z1, read_set_app z1, astore_set z1, astore_set_app z1, List.set_set, hget0s, hgetks, hread0s, hreadks, List.length_set, *, -hK, -hb, -hks, -hlt, -hple, -hplen, -hpst, -hp0, -W, -kH, -hH1, -y0, -y1, -y2] | with_reducible refine IfB_dec (fun h => ?_) (fun h => ?_) | with_reducible refine Guard_dec (fun h => ?_) (fun h => ?_) | with_reducible refine Guard_ndec (fun h => ?_) (fun h => ?_) | with_reducible refine Guard_not (fun h => ?_) (fun h => ?_) | with_reducible refine IfB_ndec (fun h => ?_) (fun h => ?_) | with_reducible refine IfB_not (fun h => ?_) (fun h => ?_) | with_reducible refine Guard_split (fun h => ?_) (fun h => ?_) | with_reducible refine IfB_split (fun h => ?_) (fun h => ?_))
  have hpl := W.lt
  have hpg := W.ge
  have hpsl : ∀ (j : Nat) (x : AV), ps[j]? = some x → x.blk ≠ some H1.length := fun j x hx e => by have := (W.lts hx e).2.1; omega
  generalize hG : (List.set (H1 ++ [(⟨[.int .i64 nx, .sl p 0 bs.length none], 0, .full⟩ : Blk)]) (H.length + 1) ⟨[.int .i64 nx, .int .u8 t.kind, .int .u8 t.cmd.kind, .int .i64 t.cmd.ten, Enc.str.lst t.cmd.keys, .str t.cmd.val, .int .u32 t.cmd.flags, .int .i64 t.cmd.for_, .int .u64 t.cmd.uniq, .int .u64 t.cmd.by_, .int .i64 t.ten, .int .i64 t.to], 0, .full⟩ : Heap) = G
  have x1 : G[H.length + 1]? = some (⟨[.int .i64 nx, .int .u8 t.kind, .int .u8 t.cmd.kind, .int .i64 t.cmd.ten, Enc.str.lst t.cmd.keys, .str t.cmd.val, .int .u32 t.cmd.flags, .int .i64 t.cmd.for_, .int .u64 t.cmd.uniq, .int .u64 t.cmd.by_, .int .i64 t.ten, .int .i64 t.to], 0, .full⟩ : Blk) := by rw [← hG, List.getElem?_set_self (by simp; omega)]
  have x2 : G[H.length + 2]? = some (⟨[.int .i64 0, .nils], 0, .full⟩ : Blk) := by rw [← hG, List.getElem?_set_ne (by omega)]; exact get_app y2 _
  have x3 : G[H1.length]? = some (⟨[.int .i64 nx, .sl p 0 bs.length none], 0, .full⟩ : Blk) := by rw [← hG, List.getElem?_set_ne (by omega)]; simp
  have kG : Keep none H G := ⟨by rw [← hG]; simp; omega, fun b hb _ => by rw [← hG, List.getElem?_set_ne (by omega), List.getElem?_append_left (by omega), kH.at_ b (by simp; omega) (by simp)]; simp [List.getElem?_append_left hb]⟩
  have WG : BxK (H.length + 3) G p ps bs := (W.keep (Keep.app none H1 [(⟨[.int .i64 nx, .sl p 0 bs.length none], 0, .full⟩ : Blk)])).low fun b h1 h2 => by rw [← hG, List.getElem?_set_ne (by omega)]
  generalize H1.length = ob at *
  clear hG y0 y1 y2 z0 z1 kH W hH1
  rw [← hp0] at WG
  refine WX_loopS [3, 4, 9, 41, 42] (fun k fr' J => ∃ (i : Nat) (qs : List AV), k = js.length - i ∧ i ≤ js.length ∧ fr'.get 43 = .int .i64 i ∧ Keep none H J ∧ J[H.length + 1]? = some (⟨[.int .i64 nx, .int .u8 t.kind, .int .u8 t.cmd.kind, .int .i64 t.cmd.ten, Enc.str.lst t.cmd.keys, .str t.cmd.val, .int .u32 t.cmd.flags, .int .i64 t.cmd.for_, .int .u64 t.cmd.uniq, .int .u64 t.cmd.by_, .int .i64 t.ten, .int .i64 t.to], 0, .full⟩ : Blk) ∧ J[H.length + 2]? = some (⟨[.int .i64 0, .nils], 0, .full⟩ : Blk) ∧ J[ob]? = some (⟨[.int .i64 nx, .sl p 0 bs.length none], 0, .full⟩ : Blk) ∧ BxK (H.length + 3) J p qs (pb (js.take i)) ∧ ∀ (j : Nat) (x : AV), qs[j]? = some x → x.blk ≠ some ob) js.length ⟨0, ps, rfl, by omega, by simp only [go_sem, Nat.reduceLT, Nat.reduceEqDiff, Nat.reduceAdd, Nat.reduceMul, Nat.reduceSub, Nat.reduceLeDiff, Int.reduceToNat, Int.reduceNeg, Int.reduceLT, Int.reduceLE, Int.reduceEq, reduceCtorEq]; rfl, kG, x1, x2, x3, WG, hpsl⟩ ?_
  clear WG x1 x2 x3 kG hpsl
  rintro k fr' J A R hA hs hg hR ⟨i, qs, rfl, hi, f43, kJ, g1, g2, g3, W, hps⟩
  have s3 := hg 3 (by decide)
  have s4 := hg 4 (by decide)
  have s9 := hg 9 (by decide)
  have s41 := hg 41 (by decide)
  have s42 := hg 42 (by decide)
  simp only [Fr.get_put, Fr.get_init, List.getD_cons_zero, List.getD_cons_succ, Nat.reduceEqDiff, if_true, if_false] at s3 s4 s9 s41 s42
  refine wx_sound hT _ ?_
  by_cases hli : i < js.length
  rotate_left
  · have i5 : ¬ (i : Int) < js.length := by omega
    have hie : i = js.length := by omega
    rw [hie, List.take_length] at W
    have hJl := (List.getElem?_eq_some_iff.1 g3).1
    have w1 : IntKind.i64.wrap (nx + 1) = nx + 1 := by rw [IntKind.wrap_i64]; omega
    repeat' (first | simp only [go_sem, Nat.reduceLT, Nat.reduceEqDiff, Nat.reduceAdd, Nat.reduceMul, Nat.reduceSub, Nat.reduceLeDiff, Int.reduceToNat, Int.reduceNeg, Int.reduceLT, Int.reduceLE, Int.reduceEq, reduceCtorEq, Int.natCast_zero, Int.natCast_one, Int.cast_ofNat_Int, Bool.not_not, false_eq_decide, true_eq_decide, hread0, hreadk, read_cons0, read_consk, astore_h0, astore_hk, hget0, hgetk, hset0, hsetk, hlen, hcat, Nat.add_assoc, Nat.add_zero, Nat.zero_add, List.length_append, and_true, true_and, AV.flat, g1, get_app g1, read_get g1, read_app g1, g3, get_app g3, read_get g3, read_app g3, astore_get g3, astore_app g3, get_set g3, get_set_app g3, read_set g3, read_set_app g3, astore_set g3, astore_set_app g3, List.set_set, hget0s, hgetks, hread0s, hreadks, List.length_set, *, -hK, -hb, -W, -kJ, -g2, -hps, -hli, -hie, -hlt, -hple, -hplen, -hpst, -hp0, -hJl, -hks] | with_reducible refine IfB_dec (fun h => ?_) (fun h => ?_) | with_reducible refine Guard_dec (fun h => ?_) (fun h => ?_) | with_reducible refine Guard_ndec (fun h => ?_) (fun h => ?_) | with_reducible refine Guard_not (fun h => ?_) (fun h => ?_) | with_reducible refine IfB_ndec (fun h => ?_) (fun h => ?_) | with_reducible refine IfB_not (fun h => ?_) (fun h => ?_) | with_reducible refine Guard_split (fun h => ?_) (fun h => ?_) | with_reducible refine IfB_split (fun h => ?_) (fun h => ?_))
    have u1 : (List.set J ob ⟨[.int .i64 (nx + 1), .sl p 0 bs.length none], 0, .full⟩)[H.length + 1]? = some (⟨[.int .i64 nx, .int .u8 t.kind, .int .u8 t.cmd.kind, .int .i64 t.cmd.ten, Enc.str.lst t.cmd.keys, .str t.cmd.val, .int .u32 t.cmd.flags, .int .i64 t.cmd.for_, .int .u64 t.cmd.uniq, .int .u64 t.cmd.by_, .int .i64 t.ten, .int .i64 t.to], 0, .full⟩ : Blk) := by rw [List.getElem?_set_ne (by omega)]; exact g1
    have u2 : (List.set J ob ⟨[.int .i64 (nx + 1), .sl p 0 bs.length none], 0, .full⟩)[H.length + 2]? = some (⟨[.int .i64 0, .nils], 0, .full⟩ : Blk) := by rw [List.getElem?_set_ne (by omega)]; exact g2
    have u3 : (List.set J ob ⟨[.int .i64 (nx + 1), .sl p 0 bs.length none], 0, .full⟩)[ob]? = some (⟨[.int .i64 (nx + 1), .sl p 0 bs.length none], 0, .full⟩ : Blk) := List.getElem?_set_self hJl
    have u5 : ((List.set J ob ⟨[.int .i64 (nx + 1), .sl p 0 bs.length none], 0, .full⟩).set (H.length + 2) ⟨[.int .i64 (nx + 1), .sl p 0 bs.length none], 0, .full⟩)[H.length + 1]? = some (⟨[.int .i64 nx, .int .u8 t.kind, .int .u8 t.cmd.kind, .int .i64 t.cmd.ten, Enc.str.lst t.cmd.keys, .str t.cmd.val, .int .u32 t.cmd.flags, .int .i64 t.cmd.for_, .int .u64 t.cmd.uniq, .int .u64 t.cmd.by_, .int .i64 t.ten, .int .i64 t.to], 0, .full⟩ : Blk) := by rw [List.getElem?_set_ne (by omega)]; exact u1
    refine WX_rows hT hmix [(0, none), (1, none), (2, none), (3, some [false, false, true]), (4, none), (5, none)] (by kernel_rfl) ?_
    repeat' (first | simp only [go_sem, Nat.reduceLT, Nat.reduceEqDiff, Nat.reduceAdd, Nat.reduceMul, Nat.reduceSub, Nat.reduceLeDiff, Int.reduceToNat, Int.reduceNeg, Int.reduceLT, Int.reduceLE, Int.reduceEq, reduceCtorEq, Int.natCast_zero, Int.natCast_one, Int.cast_ofNat_Int, Bool.not_not, false_eq_decide, true_eq_decide, hread0, hreadk, read_cons0, read_consk, astore_h0, astore_hk, hget0, hgetk, hset0, hsetk, hlen, hcat, Nat.add_assoc, Nat.add_zero, Nat.zero_add, List.length_append, and_true, true_and, AV.flat, u1, get_app u1, read_get u1, read_app u1, u5, get_app u5, read_get u5, read_app u5, u3, get_app u3, read_get u3, read_app u3, u2, get_app u2, read_get u2, read_app u2, astore_get u2, astore_app u2, get_set u2, get_set_app u2, read_set u2, read_set_app u2, astore_set u2, astore_set_app u2, List.set_set, hget0s, hgetks, hread0s, hreadks, List.length_set, *, -hK, -hb, -W, -kJ, -g1, -g2, -g3, -hps, -hli, -hie, -hlt, -hple, -hplen, -hpst, -hp0, -hJl, -hks] | with_reducible refine IfB_dec (fun h => ?_) (fun h => ?_) | with_reducible refine Guard_dec (fun h => ?_) (fun h => ?_) | with_reducible refine Guard_ndec (fun h => ?_) (fun h => ?_) | with_reducible refine Guard_not (fun h => ?_) (fun h => ?_) | with_reducible refine IfB_ndec (fun h => ?_) (fun h => ?_) | with_reducible refine IfB_not (fun h => ?_) (fun h => ?_) | with_reducible refine Guard_split (fun h => ?_) (fun h => ?_) | with_reducible refine IfB_split (fun h => ?_) (fun h => ?_))
    have W2 := (W.other0 (G := List.set (List.set J ob ⟨[.int .i64 (nx + 1), .sl p 0 bs.length none], 0, .full⟩) (H.length + 2) ⟨[.int .i64 (nx + 1), .sl p 0 bs.length none], 0, .full⟩) fun b c sz st hb2 hb3 hb4 => by
      rw [List.getElem?_set_ne (by omega), List.getElem?_set_ne (fun e => by rw [← e, g3] at hb3; cases hb3; exact hb4 rfl)]).mono (m2 := H.length) (by omega)
    exact hK _ _ ⟨⟨_, rfl, .inr ⟨p, qs, by rw [hplen], W2.tl3⟩⟩, ⟨by rw [List.length_set, List.length_set]; exact kJ.len, fun b hb2 _ => by rw [List.getElem?_set_ne (by omega), List.getElem?_set_ne (by omega)]; exact kJ.at_ b hb2 (by simp)⟩⟩
  have i5 : (i : Int) < js.length := by omega
  have e7 := inc_id hli (by omega)
  have e8 := at_enc (E := Enc.int .i64) (T := T) (k := .i64) se27 hli rfl
  rw [int_cells] at e8
  obtain ⟨kk, hkk, hkl⟩ := hlt _ (List.getElem_mem hli)
  have hpl1 : kk < (pb (js.take i)).length := by rw [hplen]; exact hkl
  obtain ⟨x, hx, hgx, ow, hxp⟩ := W.get (i := kk) hpl1
  have hbl := hple _ _ (List.getElem_mem hpl1)
  rw [List.length_take] at hbl
  have hst : pb (js.take (i + 1)) = (pb (js.take i)).set kk ((pb (js.take i))[kk] ++ [t.at_ nx]) := by
    rw [List.take_succ_eq_append_getElem hli, hkk, hpst, List.getElem?_eq_getElem hpl1]; rfl
  have hpls := hplen (js.take i)
  have back2 : ∀ fr2 J3 qs2, A fr2 → fr2.get 43 = .int .i64 ((i + 1 : Nat) : Int) → Keep none H J3 → J3[H.length + 1]? = some (⟨[.int .i64 nx, .int .u8 t.kind, .int .u8 t.cmd.kind, .int .i64 t.cmd.ten, Enc.str.lst t.cmd.keys, .str t.cmd.val, .int .u32 t.cmd.flags, .int .i64 t.cmd.for_, .int .u64 t.cmd.uniq, .int .u64 t.cmd.by_, .int .i64 t.ten, .int .i64 t.to], 0, .full⟩ : Blk) → J3[H.length + 2]? = some (⟨[.int .i64 0, .nils], 0, .full⟩ : Blk) → J3[ob]? = some (⟨[.int .i64 nx, .sl p 0 bs.length none], 0, .full⟩ : Blk) → BxK (H.length + 3) J3 p qs2 ((pb (js.take i)).set kk ((pb (js.take i))[kk] ++ [t.at_ nx])) → (∀ (j : Nat) (x : AV), qs2[j]? = some x → x.blk ≠ some ob) → R fr2 J3 := fun fr2 J3 qs2 ha j1 j2 j3 j4 j5 j6 j7 => hR fr2 J3 ha (js.length - (i + 1)) (by omega) ⟨i + 1, qs2, rfl, by omega, j1, j2, j3, j4, j5, by rw [hst]; exact j6, j7⟩
  rw [hkk] at e8
  have c1 := fun J => one_own (t.at_ nx) (by show t.cmd.keys.length ≤ _; omega) J
  have ad := BxO.addr (p := p) (T' := T) se22 hkl
  clear hR hst hp0 hpst hplen hple hlt hkk
  generalize (pb (js.take i))[kk] = ll at *
  generalize pb (js.take i) = G at *
  unfold Tkt.av Tkt.avK Tkt.at_ at c1
  simp only at c1
  have hxo := ow.one
  have hJl := (List.getElem?_eq_some_iff.1 g3).1
  have hJ2 := (List.getElem?_eq_some_iff.1 g2).1
  have rd := W.read hx
  repeat' (first | simp only [go_sem, Nat.reduceLT, Nat.reduceEqDiff, Nat.reduceAdd, Nat.reduceMul, Nat.reduceSub, Nat.reduceLeDiff, Int.reduceToNat, Int.reduceNeg, Int.reduceLT, Int.reduceLE, Int.reduceEq, reduceCtorEq, Int.natCast_zero, Int.natCast_one, Int.cast_ofNat_Int, Bool.not_not, false_eq_decide, true_eq_decide, hread0, hreadk, read_cons0, read_consk, astore_h0, astore_hk, hget0, hgetk, hset0, hsetk, hlen, hcat, Nat.add_assoc, Nat.add_zero, Nat.zero_add, List.length_append, and_true, true_and, AV.flat, g1, get_app g1, read_get g1, read_app g1, g3, get_app g3, read_get g3, read_app g3, hxo, one_solid hxo, one_cells hxo, *, -hK, -hb, -W, -kJ, -g1, -g2, -g3, -hps, -back2, -hx, -hgx, -ow, -hxp, -c1, -hJl, -hJ2, -hpl1, -hpls, -hbl, -hks] | with_reducible refine IfB_dec (fun h => ?_) (fun h => ?_) | with_reducible refine Guard_dec (fun h => ?_) (fun h => ?_) | with_reducible refine Guard_ndec (fun h => ?_) (fun h => ?_) | with_reducible refine Guard_not (fun h => ?_) (fun h => ?_) | with_reducible refine IfB_ndec (fun h => ?_) (fun h => ?_) | with_reducible refine IfB_not (fun h => ?_) (fun h => ?_) | with_reducible refine Guard_split (fun h => ?_) (fun h => ?_) | with_reducible refine IfB_split (fun h => ?_) (fun h => ?_))
  refine WX_rows hT hmix [(0, none), (1, none), (2, none), (3, none), (4, none), (5, none), (6, none), (7, none), (8, none), (9, some [true, false, false, false, false, false, false, false, false]), (10, none), (11, some [true, true, true, true, true, true, true, true, false, false, false]), (12, none), (13, some [true, true, true, true, true, true, true, true, true, true, true, true, true])] (by kernel_rfl) ?_
  repeat' (first | simp only [go_sem, Nat.reduceLT, Nat.reduceEqDiff, Nat.reduceAdd, Nat.reduceMul, Nat.reduceSub, Nat.reduceLeDiff, Int.reduceToNat, Int.reduceNeg, Int.reduceLT, Int.reduceLE, Int.reduceEq, reduceCtorEq, Int.natCast_zero, Int.natCast_one, Int.cast_ofNat_Int, Bool.not_not, false_eq_decide, true_eq_decide, hread0, hreadk, read_cons0, read_consk, astore_h0, astore_hk, hget0, hgetk, hset0, hsetk, hlen, hcat, Nat.add_assoc, Nat.add_zero, Nat.zero_add, List.length_append, and_true, true_and, AV.flat, g1, get_app g1, read_get g1, read_app g1, g3, get_app g3, read_get g3, read_app g3, hxo, one_solid hxo, one_cells hxo, *, -hK, -hb, -W, -kJ, -g1, -g2, -g3, -hps, -back2, -hx, -hgx, -ow, -hxp, -c1, -hJl, -hJ2, -hpl1, -hpls, -hbl, -hks] | with_reducible refine IfB_dec (fun h => ?_) (fun h => ?_) | with_reducible refine Guard_dec (fun h => ?_) (fun h => ?_) | with_reducible refine Guard_ndec (fun h => ?_) (fun h => ?_) | with_reducible refine Guard_not (fun h => ?_) (fun h => ?_) | with_reducible refine IfB_ndec (fun h => ?_) (fun h => ?_) | with_reducible refine IfB_not (fun h => ?_) (fun h => ?_) | with_reducible refine Guard_split (fun h => ?_) (fun h => ?_) | with_reducible refine IfB_split (fun h => ?_) (fun h => ?_))
  refine (c1 _).mono ?_
  rintro _ Jk ⟨⟨kv, rfl, okv⟩, kk0⟩
  have hkv := okv.one
  replace g3 := kk0.get g3 (by simp)
  replace g1 := kk0.get g1 (by simp)
  replace g2 := kk0.get g2 (by simp)
  have hjk := kk0.len
  have hxl : ∀ b, x.blk = some b → b < J.length := fun b hb => ow.lt hb
  have hpJ := W.lt
  replace W := W.keep kk0
  replace kJ := kJ.trans kk0
  replace ow := ow.keep0 kk0
  have okp : kv.blk ≠ some p := fun e => by have := okv.ge e; omega
  have okk : OwnE Enc.str (H.length + 3) Jk kv (t.at_ nx).cmd.keys := Own.mono okv (by omega)
  obtain ⟨rs, owr, hrl, hpush⟩ := ow.push (t := t.at_ nx) ⟨okk, okp⟩
  have hJl2 := (List.getElem?_eq_some_iff.1 g3).1
  replace rd := W.read hx
  clear okv kk0 c1
  repeat' (first | simp only [go_sem, Nat.reduceLT, Nat.reduceEqDiff, Nat.reduceAdd, Nat.reduceMul, Nat.reduceSub, Nat.reduceLeDiff, Int.reduceToNat, Int.reduceNeg, Int.reduceLT, Int.reduceLE, Int.reduceEq, reduceCtorEq, Int.natCast_zero, Int.natCast_one, Int.cast_ofNat_Int, Bool.not_not, false_eq_decide, true_eq_decide, hread0, hreadk, read_cons0, read_consk, astore_h0, astore_hk, hget0, hgetk, hset0, hsetk, hlen, hcat, Nat.add_assoc, Nat.add_zero, Nat.zero_add, List.length_append, and_true, true_and, AV.flat, g1, get_app g1, read_get g1, read_app g1, g3, get_app g3, read_get g3, read_app g3, hxo, one_solid hxo, one_cells hxo, hkv, one_solid hkv, one_cells hkv, *, -hK, -hb, -W, -kJ, -g1, -g2, -g3, -hps, -back2, -hx, -hgx, -ow, -hxp, -hJl, -hJ2, -hpl1, -hpls, -hbl, -hks, -hjk, -hxl, -hpJ, -okp, -okk, -owr, -hrl, -hpush, -hJl2] | with_reducible refine IfB_dec (fun h => ?_) (fun h => ?_) | with_reducible refine Guard_dec (fun h => ?_) (fun h => ?_) | with_reducible refine Guard_ndec (fun h => ?_) (fun h => ?_) | with_reducible refine Guard_not (fun h => ?_) (fun h => ?_) | with_reducible refine IfB_ndec (fun h => ?_) (fun h => ?_) | with_reducible refine IfB_not (fun h => ?_) (fun h => ?_) | with_reducible refine Guard_split (fun h => ?_) (fun h => ?_) | with_reducible refine IfB_split (fun h => ?_) (fun h => ?_))
  have hbl2 : ll.length ≤ 300 := by omega
  refine append_own (k := 1) (xs := (t.at_ nx).csK kv) (owr.keep0 (Keep.app none Jk [(⟨(t.at_ nx).csK kv, 12, .full⟩ : Blk)])) se31 az38 td38 (asrc_sl tk31 (Vs.sl (vs_at (st := .full) (by rw [hget0]; rfl) rfl rfl))) rfl (by decide) (by rw [rowK_length]; show (rs.length * 12 + 12) * 120 ≤ _; omega) (by rw [rowK_length]; show rs.length * 12 + 12 ≤ _; omega) (by simp; omega) ?_
  intro v2 J3 ov2 k2 hn2
  have hv2 := ov2.one
  have o2 : OwnK (H.length + 3) J3 p v2 (ll ++ [t.at_ nx]) := hpush v2 J3 _ ov2 k2
  have z3 := k2.get (get_app g3 _) (hps kk x hx)
  have z1 := k2.get (get_app g1 _) (fun e => by have := ow.ge e; omega)
  have z4 : J3[Jk.length]? = some (⟨[.int .i64 nx, .int .u8 t.kind, .int .u8 t.cmd.kind, .int .i64 t.cmd.ten, kv, .str t.cmd.val, .int .u32 t.cmd.flags, .int .i64 t.cmd.for_, .int .u64 t.cmd.uniq, .int .u64 t.cmd.by_, .int .i64 t.ten, .int .i64 t.to], 12, .full⟩ : Blk) := k2.get (by rw [hget0]; rfl) (fun e => by have := hxl _ e; omega)
  have hp3 : J3[p]? = Jk[p]? := by rw [k2.at_ _ (by have := W.lt; simp; omega) (fun e => hxp e), List.getElem?_append_left W.lt]
  have rd3 : J3.read p kk 1 = some [x] := by have := W.read hx; unfold Heap.read at this ⊢; rw [hp3]; exact this
  obtain ⟨sq1, sq2⟩ := o2.sc
  obtain ⟨st, rest, hst, w1⟩ := W.store (T' := T) hx hp3 (te := 31) (by simp only [asize, td31, Option.map_some]) sq1 sq2
  have kk2 : Keep x.blk Jk J3 := (Keep.weak (Keep.app none Jk _)).trans k2
  have W2 := W.upd hx (by rw [hgx]) kk2 o2 (fun b hb => (hn2 b hb).imp id (fun h => by simp only [List.length_append] at h; omega)) rest st hst
  have hJ3 : Jk.length ≤ J3.length := kk2.len
  have y2 : J3[H.length + 2]? = some (⟨[.int .i64 0, .nils], 0, .full⟩ : Blk) := kk2.get g2 (fun e => by have := ow.ge e; omega)
  have hpg2 := W.ge
  have hpl2 := W.lt
  have kJ3 : Keep none H (List.set J3 p ⟨qs.set kk v2 ++ rest, 1, st⟩) := ⟨by rw [List.length_set]; have := kJ.len; omega, fun b hb _ => by
    rw [List.getElem?_set_ne (by omega), kk2.at_ _ (by omega) (fun e => by have := ow.ge e; omega)]; exact kJ.at_ b hb (by simp)⟩
  have hps2 : ∀ (j : Nat) (z : AV), (qs.set kk v2)[j]? = some z → z.blk ≠ some ob := fun j z hz => by
    by_cases e : kk = j
    · subst e
      rw [List.getElem?_set_self (List.getElem?_eq_some_iff.1 hx).1] at hz
      cases hz
      intro e2
      rcases hn2 _ e2 with h | h
      · exact hps kk x hx h
      · simp only [List.length_append] at h; omega
    · rw [List.getElem?_set_ne e] at hz
      exact hps j z hz
  generalize hG3 : (List.set J3 p ⟨qs.set kk v2 ++ rest, 1, st⟩ : Heap) = J4 at *
  have y4 : J4[H.length + 1]? = some (⟨[.int .i64 nx, .int .u8 t.kind, .int .u8 t.cmd.kind, .int .i64 t.cmd.ten, Enc.str.lst t.cmd.keys, .str t.cmd.val, .int .u32 t.cmd.flags, .int .i64 t.cmd.for_, .int .u64 t.cmd.uniq, .int .u64 t.cmd.by_, .int .i64 t.ten, .int .i64 t.to], 0, .full⟩ : Blk) := by rw [← hG3, List.getElem?_set_ne (by omega)]; exact z1
  have y5 : J4[H.length + 2]? = some (⟨[.int .i64 0, .nils], 0, .full⟩ : Blk) := by rw [← hG3, List.getElem?_set_ne (by omega)]; exact y2
  have y6 : J4[ob]? = some (⟨[.int .i64 nx, .sl p 0 bs.length none], 0, .full⟩ : Blk) := by rw [← hG3, List.getElem?_set_ne (by omega)]; exact z3
  clear hG3 k2 hn2 kk2 y2 o2 ov2 W rd hst hp3 hps owr hpush okk okp ow
  repeat' (first | simp only [go_sem, Nat.reduceLT, Nat.reduceEqDiff, Nat.reduceAdd, Nat.reduceMul, Nat.reduceSub, Nat.reduceLeDiff, Int.reduceToNat, Int.reduceNeg, Int.reduceLT, Int.reduceLE, Int.reduceEq, reduceCtorEq, Int.natCast_zero, Int.natCast_one, Int.cast_ofNat_Int, Bool.not_not, false_eq_decide, true_eq_decide, hread0, hreadk, read_cons0, read_consk, astore_h0, astore_hk, hget0, hgetk, hset0, hsetk, hlen, hcat, Nat.add_assoc, Nat.add_zero, Nat.zero_add, List.length_append, and_true, true_and, AV.flat, z1, get_app z1, read_get z1, read_app z1, z3, get_app z3, read_get z3, read_app z3, z4, get_app z4, read_get z4, read_app z4, hxo, one_solid hxo, one_cells hxo, hv2, one_solid hv2, one_cells hv2, hkv, one_solid hkv, one_cells hkv, *, -hK, -hb, -kJ, -g1, -g2, -g3, -back2, -hx, -hgx, -hxp, -hJl, -hJ2, -hjk, -hxl, -hpJ, -hrl, -hJl2, -hpl1, -hpls, -hbl, -hks, -W2, -kJ3, -hps2, -y4, -y5, -y6, -hJ3, -hpg2, -hpl2, -hbl2] | with_reducible refine IfB_dec (fun h => ?_) (fun h => ?_) | with_reducible refine Guard_dec (fun h => ?_) (fun h => ?_) | with_reducible refine Guard_ndec (fun h => ?_) (fun h => ?_) | with_reducible refine Guard_not (fun h => ?_) (fun h => ?_) | with_reducible refine IfB_ndec (fun h => ?_) (fun h => ?_) | with_reducible refine IfB_not (fun h => ?_) (fun h => ?_) | with_reducible refine Guard_split (fun h => ?_) (fun h => ?_) | with_reducible refine IfB_split (fun h => ?_) (fun h => ?_))
  exact back2 _ _ _ (by (repeat (first | exact hs | refine hA _ _ _ (by decide) ?_))) (by simp only [go_sem, Nat.reduceLT, Nat.reduceEqDiff, Nat.reduceAdd, Nat.reduceMul, Nat.reduceSub, Nat.reduceLeDiff, Int.reduceToNat, Int.reduceNeg, Int.reduceLT, Int.reduceLE, Int.reduceEq, reduceCtorEq]) kJ3 y4 y5 y6 W2 hps2
open Go Go.Proofs Go.Proofs.PI
def TO (m : Nat) (H : Heap) (w : AV) (t : Tkt) : Prop := ∃ kv, w = t.avK kv ∧ OwnE Enc.str m H kv t.cmd.keys
theorem Tkt.lend {t : Tkt} {m : Nat} {H : Heap} {v : AV} (h : OwnE Enc.str m H v t.cmd.keys) : Thaw 0 H (t.avK v) t.av :=
  Thaw.agg_row ⟨.int _ _, .int _ _, .int _ _, .int _ _, (h.thaw (by decide)).mono (Nat.zero_le _), .str _, .int _ _, .int _ _, .int _ _, .int _ _, .int _ _, .int _ _, trivial⟩
theorem own_loose {α : Type} {E : Enc α} {m : Nat} {H : Heap} {v : AV} {xs : List α} (h : OwnE E m H v xs) : v.loose = true := by
  rcases h with ⟨rfl, _⟩ | ⟨b, n, st, rest, rfl, _⟩ <;> rfl
theorem str_loose (xs : List (List UInt8)) : ∀ a ∈ Enc.str.row xs, a.loose = true := fun a ha => by
  obtain ⟨x, _, hx⟩ := List.mem_flatMap.1 ha
  simp only [str_cells, List.mem_singleton] at hx; subst hx; rfl
theorem int_loose (xs : List Int) : ∀ a ∈ (Enc.int .i64).row xs, a.loose = true := fun a ha => by
  obtain ⟨x, _, hx⟩ := List.mem_flatMap.1 ha
  simp only [int_cells, List.mem_singleton] at hx; subst hx; rfl
theorem one_lent (t : Tkt) (hn : t.cmd.keys.length ≤ 1000000) {m : Nat} {H : Heap} {v : AV} (h : OwnE Enc.str m H v t.cmd.keys) : WC Try.prog 36 [t.avK v] H fun r H' => (∃ kv, r = t.avK kv ∧ OwnE Enc.str H.length H' kv t.cmd.keys) ∧ Keep none H H' := by
  refine (WC_lend (Q := fun r I => ∃ kv, r = t.avK kv ∧ OwnE Enc.str H.shut.length I kv t.cmd.keys) (args := [t.avK v]) (args' := [t.av]) ⟨Tkt.lend h, trivial⟩ ((one_own t hn _).mono ?_)).mono ?_
  · rintro r I ⟨⟨w, rfl, o⟩, k⟩
    refine ⟨.agg _ (Nofz.row fun x hx => ?_), w, rfl, o⟩
    have := own_loose o
    simp only [List.mem_cons, List.not_mem_nil, or_false] at hx
    rcases hx with rfl | rfl | rfl | rfl | rfl | rfl | rfl | rfl | rfl | rfl | rfl | rfl <;> exact .cell _ (by first | rfl | assumption)
  · rintro r H' ⟨I, ⟨w, rfl, o⟩, rfl⟩
    exact ⟨⟨w, rfl, Own.back o (str_loose _)⟩, back_keep _ _⟩
theorem tshards_own (t : Tkt) (n : Nat) (h4 : n ≤ 4) (hn : t.cmd.keys.length ≤ 1000) (hks : ∀ k ∈ t.cmd.keys, k.length ≤ 100000) (H : Heap) : WC Try.prog 32 [t.av, .int .i64 n] H fun r H' => OwnE (Enc.int .i64) H.length H' r (shardsL t n) ∧ Keep none H H' := by
  refine WC_of_K fun K hK => ?_
  by_cases k1 : t.kind = 1
  · have sh := fun J => shards_own t.cmd n hn hks J
    rw [show shardsL t n = shL t.cmd n by unfold shardsL; rw [if_pos k1]] at hK
    unfold Tkt.av Cmd.av at *
    rw [k1]
    clear k1
    refine WC_of_body hT Try.func32 rfl (by simp [Try.f32]) (by simp [Try.f32]) (wx_sound hT _ ?_)
    simp only [Try.f32]
    repeat' (first | simp only [go_sem, Nat.reduceLT, Nat.reduceEqDiff, Nat.reduceAdd, Nat.reduceMul, Nat.reduceSub, Nat.reduceLeDiff, Int.reduceToNat, Int.reduceNeg, Int.reduceLT, Int.reduceLE, Int.reduceEq, reduceCtorEq, Int.natCast_zero, Int.natCast_one, Int.cast_ofNat_Int, Bool.not_not, false_eq_decide, true_eq_decide, hread0, hreadk, read_cons0, read_consk, astore_h0, astore_hk, hget0, hgetk, hset0, hsetk, hlen, hcat, Nat.add_assoc, Nat.add_zero, Nat.zero_add, List.length_append, and_true, true_and, AV.flat, *, -hK, -sh] | with_reducible refine IfB_dec (fun h => ?_) (fun h => ?_) | with_reducible refine Guard_dec (fun h => ?_) (fun h => ?_) | with_reducible refine Guard_ndec (fun h => ?_) (fun h => ?_) | with_reducible refine Guard_not (fun h => ?_) (fun h => ?_) | with_reducible refine IfB_ndec (fun h => ?_) (fun h => ?_) | with_reducible refine IfB_not (fun h => ?_) (fun h => ?_) | with_reducible refine Guard_split (fun h => ?_) (fun h => ?_) | with_reducible refine IfB_split (fun h => ?_) (fun h => ?_))
    refine (sh _).mono ?_
    rintro r H1 ⟨v, rfl, o, k⟩
    have hv := o.one
    repeat' (first | simp only [go_sem, Nat.reduceLT, Nat.reduceEqDiff, Nat.reduceAdd, Nat.reduceMul, Nat.reduceSub, Nat.reduceLeDiff, Int.reduceToNat, Int.reduceNeg, Int.reduceLT, Int.reduceLE, Int.reduceEq, reduceCtorEq, Int.natCast_zero, Int.natCast_one, Int.cast_ofNat_Int, Bool.not_not, false_eq_decide, true_eq_decide, hread0, hreadk, read_cons0, read_consk, astore_h0, astore_hk, hget0, hgetk, hset0, hsetk, hlen, hcat, Nat.add_assoc, Nat.add_zero, Nat.zero_add, List.length_append, and_true, true_and, AV.flat, hv, one_solid hv, one_cells hv, *, -hK, -sh, -o, -k] | with_reducible refine IfB_dec (fun h => ?_) (fun h => ?_) | with_reducible refine Guard_dec (fun h => ?_) (fun h => ?_) | with_reducible refine Guard_ndec (fun h => ?_) (fun h => ?_) | with_reducible refine Guard_not (fun h => ?_) (fun h => ?_) | with_reducible refine IfB_ndec (fun h => ?_) (fun h => ?_) | with_reducible refine IfB_not (fun h => ?_) (fun h => ?_) | with_reducible refine Guard_split (fun h => ?_) (fun h => ?_) | with_reducible refine IfB_split (fun h => ?_) (fun h => ?_))
    exact hK _ _ ⟨Own.mono o (m' := H.length) (by simp), (Keep.app none H _).trans k⟩
  rw [show shardsL t n = rangeI n by unfold shardsL; rw [if_neg k1]] at hK
  unfold Tkt.av
  have hc : (0 : Int) ≤ n ∧ (n : Int) ≤ n ∧ (n : Int) ≤ 140737488355328 ∧ 8 * (n : Int) ≤ 140737488355328 := by omega
  have hj : (n : Int).toNat = n := Int.toNat_natCast n
  refine WC_of_body hT Try.func32 rfl (by simp [Try.f32]) (by simp [Try.f32]) (wx_sound hT _ ?_)
  simp only [Try.f32]
  repeat' (first | simp only [go_sem, Nat.reduceLT, Nat.reduceEqDiff, Nat.reduceAdd, Nat.reduceMul, Nat.reduceSub, Nat.reduceLeDiff, Int.reduceToNat, Int.reduceNeg, Int.reduceLT, Int.reduceLE, Int.reduceEq, reduceCtorEq, Int.natCast_zero, Int.natCast_one, Int.cast_ofNat_Int, Bool.not_not, false_eq_decide, true_eq_decide, hread0, hreadk, read_cons0, read_consk, astore_h0, astore_hk, hget0, hgetk, hset0, hsetk, hlen, hcat, Nat.add_assoc, Nat.add_zero, Nat.zero_add, List.length_append, and_true, true_and, AV.flat, *, -hK, -hc, -hj] | with_reducible refine IfB_dec (fun h => ?_) (fun h => ?_) | with_reducible refine Guard_dec (fun h => ?_) (fun h => ?_) | with_reducible refine Guard_ndec (fun h => ?_) (fun h => ?_) | with_reducible refine Guard_not (fun h => ?_) (fun h => ?_) | with_reducible refine IfB_ndec (fun h => ?_) (fun h => ?_) | with_reducible refine IfB_not (fun h => ?_) (fun h => ?_) | with_reducible refine Guard_split (fun h => ?_) (fun h => ?_) | with_reducible refine IfB_split (fun h => ?_) (fun h => ?_))
  rw [if_pos hc]
  simp only [hj]
  repeat' (first | simp only [go_sem, Nat.reduceLT, Nat.reduceEqDiff, Nat.reduceAdd, Nat.reduceMul, Nat.reduceSub, Nat.reduceLeDiff, Int.reduceToNat, Int.reduceNeg, Int.reduceLT, Int.reduceLE, Int.reduceEq, reduceCtorEq, Int.natCast_zero, Int.natCast_one, Int.cast_ofNat_Int, Bool.not_not, false_eq_decide, true_eq_decide, hread0, hreadk, read_cons0, read_consk, astore_h0, astore_hk, hget0, hgetk, hset0, hsetk, hlen, hcat, Nat.add_assoc, Nat.add_zero, Nat.zero_add, List.length_append, and_true, true_and, AV.flat, *, -hK, -hc, -hj] | with_reducible refine IfB_dec (fun h => ?_) (fun h => ?_) | with_reducible refine Guard_dec (fun h => ?_) (fun h => ?_) | with_reducible refine Guard_ndec (fun h => ?_) (fun h => ?_) | with_reducible refine Guard_not (fun h => ?_) (fun h => ?_) | with_reducible refine IfB_ndec (fun h => ?_) (fun h => ?_) | with_reducible refine IfB_not (fun h => ?_) (fun h => ?_) | with_reducible refine Guard_split (fun h => ?_) (fun h => ?_) | with_reducible refine IfB_split (fun h => ?_) (fun h => ?_))
  have o0 : OwnE (Enc.int .i64) H.length (H ++ [(⟨[.int .i64 t.num, .int .u8 t.kind, .int .u8 t.cmd.kind, .int .i64 t.cmd.ten, Enc.str.lst t.cmd.keys, .str t.cmd.val, .int .u32 t.cmd.flags, .int .i64 t.cmd.for_, .int .u64 t.cmd.uniq, .int .u64 t.cmd.by_, .int .i64 t.ten, .int .i64 t.to], 0, .full⟩ : Blk), (⟨(List.replicate n [AV.int .i64 0]).flatten, 1, .full⟩ : Blk)]) (.sl (H.length + 1) 0 n none) (List.replicate n 0) :=
    Own.whole (st := .full) (by omega) (by rw [hgetk, row_int0]; rfl) rfl (by rw [Enc.row_length, List.length_replicate])
  refine WX_loopS [7, 23] (fun k fr' J => ∃ (i : Nat) (ys : List Int), k = n - i ∧ i ≤ n ∧ fr'.get 24 = .int .i64 i ∧ ys.length = n ∧ OwnE (Enc.int .i64) H.length J (.sl (H.length + 1) 0 n none) ys ∧ ys.take i = rangeI i ∧ Keep none H J) n ⟨0, _, rfl, by omega, by simp only [go_sem, Nat.reduceLT, Nat.reduceEqDiff, Nat.reduceAdd, Nat.reduceMul, Nat.reduceSub, Nat.reduceLeDiff, Int.reduceToNat, Int.reduceNeg, Int.reduceLT, Int.reduceLE, Int.reduceEq, reduceCtorEq]; rfl, List.length_replicate .., o0, by simp [rangeI], Keep.app _ _ _⟩ ?_
  clear o0
  rintro k fr' J A R hA hs hg hR ⟨i, ys, rfl, hi, f24, hyl, ho, hyt, kJ⟩
  have s7 := hg 7 (by decide)
  have s23 := hg 23 (by decide)
  simp only [Fr.get_put, Fr.get_init, List.getD_cons_zero, List.getD_cons_succ, Nat.reduceEqDiff, if_true, if_false] at s7 s23
  refine wx_sound hT _ ?_
  by_cases hlt : i < n
  rotate_left
  · have i1 : ¬ (i : Int) < n := by omega
    have hie : i = n := by omega
    have hyr : ys = rangeI n := by rw [← hie, ← hyt, List.take_of_length_le (by omega)]
    rw [hyr] at ho
    repeat' (first | simp only [go_sem, Nat.reduceLT, Nat.reduceEqDiff, Nat.reduceAdd, Nat.reduceMul, Nat.reduceSub, Nat.reduceLeDiff, Int.reduceToNat, Int.reduceNeg, Int.reduceLT, Int.reduceLE, Int.reduceEq, reduceCtorEq, Int.natCast_zero, Int.natCast_one, Int.cast_ofNat_Int, Bool.not_not, false_eq_decide, true_eq_decide, hread0, hreadk, read_cons0, read_consk, astore_h0, astore_hk, hget0, hgetk, hset0, hsetk, hlen, hcat, Nat.add_assoc, Nat.add_zero, Nat.zero_add, List.length_append, and_true, true_and, AV.flat, *, -hK, -hc, -hj, -ho, -hyt, -kJ, -hyl, -hie, -hyr] | with_reducible refine IfB_dec (fun h => ?_) (fun h => ?_) | with_reducible refine Guard_dec (fun h => ?_) (fun h => ?_) | with_reducible refine Guard_ndec (fun h => ?_) (fun h => ?_) | with_reducible refine Guard_not (fun h => ?_) (fun h => ?_) | with_reducible refine IfB_ndec (fun h => ?_) (fun h => ?_) | with_reducible refine IfB_not (fun h => ?_) (fun h => ?_) | with_reducible refine Guard_split (fun h => ?_) (fun h => ?_) | with_reducible refine IfB_split (fun h => ?_) (fun h => ?_))
    exact hK _ _ ⟨ho, kJ⟩
  have i1 : (i : Int) < n := by omega
  have e3 := inc_id hlt (by omega)
  obtain ⟨b, o, H2, q1, q2, q3, q4, q5⟩ := ho.set (by decide) se27 (i := i) (by omega) (k := .i64) rfl (te := 3) (by simp only [asize, td3, Option.map_some]; rfl) (x := (i : Int)) (a := .int .i64 i) rfl rfl
  have hst : (ys.set i (i : Int)).take (i + 1) = rangeI (i + 1) := by
    rw [List.take_succ_eq_append_getElem (by rw [List.length_set]; omega), List.getElem_set_self, List.take_set_of_le (Nat.le_refl _), hyt, rangeI_step]
  have hge : ∀ b, (AV.sl (H.length + 1) 0 n none).blk = some b → H.length ≤ b := fun b hb => ho.ge hb
  repeat' (first | simp only [go_sem, Nat.reduceLT, Nat.reduceEqDiff, Nat.reduceAdd, Nat.reduceMul, Nat.reduceSub, Nat.reduceLeDiff, Int.reduceToNat, Int.reduceNeg, Int.reduceLT, Int.reduceLE, Int.reduceEq, reduceCtorEq, Int.natCast_zero, Int.natCast_one, Int.cast_ofNat_Int, Bool.not_not, false_eq_decide, true_eq_decide, hread0, hreadk, read_cons0, read_consk, astore_h0, astore_hk, hget0, hgetk, hset0, hsetk, hlen, hcat, Nat.add_assoc, Nat.add_zero, Nat.zero_add, List.length_append, and_true, true_and, AV.flat, *, -hK, -hc, -hj, -ho, -hyt, -kJ, -hyl, -q3, -q4, -q5, -hst, -hge] | with_reducible refine IfB_dec (fun h => ?_) (fun h => ?_) | with_reducible refine Guard_dec (fun h => ?_) (fun h => ?_) | with_reducible refine Guard_ndec (fun h => ?_) (fun h => ?_) | with_reducible refine Guard_not (fun h => ?_) (fun h => ?_) | with_reducible refine IfB_ndec (fun h => ?_) (fun h => ?_) | with_reducible refine IfB_not (fun h => ?_) (fun h => ?_) | with_reducible refine Guard_split (fun h => ?_) (fun h => ?_) | with_reducible refine IfB_split (fun h => ?_) (fun h => ?_))
  exact hR _ _ (by (repeat (first | exact hs | refine hA _ _ _ (by decide) ?_))) (n - (i + 1)) (by omega) ⟨i + 1, _, rfl, by omega, by simp only [go_sem, Nat.reduceLT, Nat.reduceEqDiff, Nat.reduceAdd, Nat.reduceMul, Nat.reduceSub, Nat.reduceLeDiff, Int.reduceToNat, Int.reduceNeg, Int.reduceLT, Int.reduceLE, Int.reduceEq, reduceCtorEq], by rw [List.length_set]; exact hyl, q3, hst, kJ.via q4 (fun b hb => hge b (by rw [q5]; exact hb))⟩

theorem tshards_lent (t : Tkt) (n : Nat) (h4 : n ≤ 4) (hn : t.cmd.keys.length ≤ 1000) (hks : ∀ k ∈ t.cmd.keys, k.length ≤ 100000) {m : Nat} {H : Heap} {v : AV} (h : OwnE Enc.str m H v t.cmd.keys) : WC Try.prog 32 [t.avK v, .int .i64 n] H fun r H' => r = (Enc.int .i64).lst (shardsL t n) ∧ H' = H := by
  refine WC_froze (Q := fun r => r = _) ?_
  refine (WC_lend (Q := fun r I => OwnE (Enc.int .i64) H.shut.length I r (shardsL t n) ∧ Keep none H.shut I) (args := [t.avK v, .int .i64 n]) (args' := [t.av, .int .i64 n]) ⟨Tkt.lend h, .int _ _, trivial⟩ ((tshards_own t n h4 hn hks _).mono ?_)).mono ?_
  · rintro r I ⟨o, k⟩
    exact ⟨.cell _ (own_loose o), o, k⟩
  · rintro r H' ⟨I, ⟨o, k⟩, rfl⟩
    have o' : OwnE (Enc.int .i64) H.length (H.back I) r _ := Own.back o (int_loose _)
    exact ⟨_, o'.thaw (by decide), back_keep _ _, rfl⟩
theorem KeyO.keep {m p : Nat} {H G : Heap} {r : Tkt × AV} (o : KeyO m H p r) (k : Keep none H G) : KeyO m G p r := o.same fun b _ hb _ _ => k.at_ b hb (by simp)
theorem OwnK.first {m p : Nat} {H : Heap} {x : AV} {t : Tkt} {l : List Tkt} (o : OwnK m H p x (t :: l)) {T' : TypeId → Option TD} {ty e : TypeId} (he : asliceElem T' ty = some (e, 12)) :
    ∃ b0 kv, aindexAddr T' ty x (.int .i64 0) = some (.ptr b0 0) ∧ H.read b0 0 12 = some (t.csK kv) ∧ KeyO m H p (t, kv) ∧ x.blk = some b0 := by
  obtain ⟨rs, h1, h2, h3⟩ := o
  obtain ⟨⟨t2, kv⟩, rs2, rfl⟩ : ∃ r rs2, rs = r :: rs2 := by
    cases rs with
    | nil => cases h1
    | cons r rs => exact ⟨r, rs, rfl⟩
  simp only [List.map_cons, List.cons.injEq] at h1
  obtain ⟨rfl, _⟩ := h1
  rcases h2 with ⟨rfl, e⟩ | ⟨b, n, st, rest, rfl, g1, g2, g3, g4⟩
  · cases e
  · rw [rowK_length, List.length_cons] at g4
    refine ⟨b, kv, ?_, ?_, h3 _ (.head _), rfl⟩
    · simp only [aindexAddr, he]
      rw [if_pos ⟨by omega, by omega⟩]; rfl
    · unfold Heap.read
      rw [g2, rowK_cons]
      simp only [own_alive g3, true_and]
      rw [if_pos (by simp only [List.length_append]; show 0 + 12 ≤ 12 + _ + _; omega)]
      rfl
theorem TlK.tail {m p : Nat} {H : Heap} {x : AV} {t : Tkt} {l : List Tkt} (o : TlK m H p x (t :: l)) {T' : TypeId → Option TD} {ty e : TypeId} (he : asliceElem T' ty = some (e, 12)) :
    ∃ y, aslice T' H ty x (some (.int .i64 1)) none none = some y ∧ TlK m H p y l ∧ (y.blk = none ∨ y.blk = x.blk) := by
  obtain ⟨z, rs, h1, h2, h3⟩ := o
  rcases h3 with ⟨_, e⟩ | ⟨b, cap, st, rest, rfl, hc, g1, g2, g3, g4, g5⟩
  · cases e
  have hl : (t :: l).length = rs.length - z := by rw [← h1, List.length_map, List.length_drop]
  have hlen : ((t :: l).length) * 12 ≤ (rowK rs ++ rest).length - z * 12 := by rw [List.length_append, rowK_length, hl]; omega
  have vs : Vs H (.sl b (z * 12) (t :: l).length cap) 12 (t :: l).length (((rowK rs ++ rest).drop (z * 12)).take ((t :: l).length * 12)) :=
    ⟨by rw [List.length_take, List.length_drop]; omega, .inr (.inr ⟨b, z * 12, cap, _, rfl, hc, g3, own_alive g4, fun _ => rfl, by show z * 12 + _ ≤ (rowK rs ++ rest).length; rw [List.length_cons] at hlen ⊢; have : z * 12 ≤ (rowK rs ++ rest).length := by { rw [List.length_append, rowK_length]; omega }; omega, rfl⟩)⟩
  have a1 : ∀ d, abound d (some (.int .i64 1)) = some 1 := fun d => abound_nat 1 rfl
  have a2 : ∀ d, abound d none = some d := fun _ => rfl
  obtain ⟨y, hy, _, _⟩ := Vs.slice vs he (lo := some (.int .i64 1)) (hi := none) (l := 1) (u := (t :: l).length) (a1 _) rfl (by simp) (Nat.le_refl _)
  have hd : (rs.drop (z + 1)).map Prod.fst = l := by
    have := congrArg (List.drop 1) h1
    rw [← List.map_drop, List.drop_drop] at this
    exact this
  have hy0 := hy
  simp only [aslice, he, a1, a2] at hy
  split at hy
  · rw [if_neg (by decide)] at hy
    by_cases h1l : 1 = (t :: l).length
    · rw [if_pos h1l] at hy
      cases hy
      have hle : l = [] := List.eq_nil_of_length_eq_zero (by rw [List.length_cons] at h1l; omega)
      exact ⟨_, hy0, ⟨z + 1, rs, hd, h2, .inl ⟨.inr rfl, hle⟩⟩, .inl rfl⟩
    · rw [if_neg h1l] at hy
      cases hy
      refine ⟨_, hy0, ⟨z + 1, rs, hd, h2, .inr ⟨b, cap.map (· - 1), st, rest, ?_, (fun c hcc => ?_), g1, g2, g3, g4, by rw [List.length_cons] at hl; omega⟩⟩, .inr rfl⟩
      · rw [List.length_cons, Nat.add_sub_cancel, show z * 12 + 1 * 12 = (z + 1) * 12 by omega]
      · obtain ⟨c2, hc2, rfl⟩ := Option.map_eq_some_iff.1 hcc
        have := hc c2 hc2
        rw [List.length_cons] at this
        omega
  · cases hy
section
variable {m p : Nat} {H : Heap} {ps : List AV} {l : List (List Tkt)} {T' : TypeId → Option TD}
theorem TlO3.get (o : TlO3 m H p ps l) {i : Nat} (h : i < l.length) : ∃ x, ps[i]? = some x ∧ l[i]? = some l[i] ∧ TlK m H p x l[i] := by
  have h1 := List.getElem?_eq_getElem (l := ps) (i := i) (by rw [o.len]; exact h)
  have h2 := List.getElem?_eq_getElem h
  exact ⟨_, h1, h2, o.el i _ _ h1 h2⟩
theorem TlO3.lt (o : TlO3 m H p ps l) : p < H.length := by
  obtain ⟨st, rest, h, -⟩ := o.blk
  exact (List.getElem?_eq_some_iff.1 h).1
theorem TlO3.read (o : TlO3 m H p ps l) {i : Nat} {x : AV} (hx : ps[i]? = some x) : H.read p i 1 = some [x] := by
  obtain ⟨st, rest, h, h2⟩ := o.blk
  exact read_ps h h2 hx
theorem TlO3.store (o : TlO3 m H p ps l) {i : Nat} {x : AV} (hx : ps[i]? = some x) {te : TypeId} (hte : asize T' te = some 1) {s : AV} (hso : s.solid = true) (hc : s.cells = [s]) :
    ∃ st rest, st.own = true ∧ astore T' H te (.ptr p i) s = some (List.set H p ⟨ps.set i s ++ rest, 1, st⟩) := by
  obtain ⟨st, rest, h, hst⟩ := o.blk
  have hi : i < ps.length := (List.getElem?_eq_some_iff.1 hx).1
  refine ⟨st, rest, hst, ?_⟩
  simp only [astore, hte, h, hst, hso, hc, List.length_cons, List.length_nil, true_and]
  rw [if_pos (by rw [List.length_append]; omega), wr_left _ _ _ _ (by simp; omega), wr_one _ _ _ (by omega)]
theorem TlO3.upd (o : TlO3 m H p ps l) {i : Nat} {x y : AV} {t2 : List Tkt} (hx : ps[i]? = some x) (hy : TlK m H p y t2) (hn : y.blk = none ∨ y.blk = x.blk) (rest : List AV) (st : St) (hst : st.own = true) : TlO3 m (List.set H p ⟨ps.set i y ++ rest, 1, st⟩) p (ps.set i y) (l.set i t2) := by
  have hi : i < ps.length := (List.getElem?_eq_some_iff.1 hx).1
  refine ⟨by rw [List.length_set, List.length_set]; exact o.len, o.ge, ⟨st, rest, List.getElem?_set_self o.lt, hst⟩, fun j z u hz hu => ?_⟩
  by_cases e : i = j
  · subst e
    rw [List.getElem?_set_self hi] at hz
    rw [List.getElem?_set_self (by rw [← o.len]; exact hi)] at hu
    simp only [Option.some.injEq] at hz hu
    subst hz; subst hu
    exact hy.same (fun b hb => List.getElem?_set_ne fun e => (hy.blkge hb).2.2 e.symm) (fun b _ _ _ hb => List.getElem?_set_ne fun e => hb e.symm)
  · rw [List.getElem?_set_ne e] at hz hu
    have g1 := o.el j z u hz hu
    exact g1.same (fun b hb => List.getElem?_set_ne fun e => (g1.blkge hb).2.2 e.symm) (fun b _ _ _ hb => List.getElem?_set_ne fun e => hb e.symm)
theorem TlO3.low {G : Heap} (o : TlO3 m H p ps l) (h : ∀ b, m ≤ b → b < H.length → G[b]? = H[b]?) : TlO3 m G p ps l := by
  refine ⟨o.len, o.ge, ?_, fun i x t hx ht => ?_⟩
  · obtain ⟨st, rest, h1, h2⟩ := o.blk
    exact ⟨st, rest, by rw [h p o.ge o.lt]; exact h1, h2⟩
  · have g1 := o.el i x t hx ht
    exact g1.same (fun b hb => h b (g1.blkge hb).1 (g1.blkge hb).2.1) (fun b h1 h2 _ _ => h b h1 h2)
theorem TlO3.keep0 {G : Heap} (o : TlO3 m H p ps l) (k : Keep none H G) : TlO3 m G p ps l := o.low fun b _ hb => k.at_ b hb (by simp)
theorem TlO3.mono (o : TlO3 m H p ps l) {m2 : Nat} (hm : m2 ≤ m) : TlO3 m2 H p ps l := ⟨o.len, Nat.le_trans hm o.ge, o.blk, fun i x t hx ht => (o.el i x t hx ht).mono hm⟩
theorem TlO3.thaw (o : TlO3 m H p ps l) : Thaw m H (.sl p 0 l.length none) (boxE.lst l) := by
  obtain ⟨st, rest, h, hst⟩ := o.blk
  have hlen := o.len
  refine .sl p 0 _ _ _ _ o.ge h hst ?_ fun i a c ha hc => ?_
  · rw [boxE_row, List.length_map, List.length_append]; omega
  · rw [Nat.zero_add] at ha
    rw [boxE_row] at hc
    have hi : i < l.length := by have := (List.getElem?_eq_some_iff.1 hc).1; rwa [List.length_map] at this
    rw [List.getElem?_append_left (by omega)] at ha
    rw [List.getElem?_map, List.getElem?_eq_getElem hi] at hc
    cases hc
    exact (o.el _ _ _ ha (List.getElem?_eq_getElem hi)).thaw
end
theorem take3 (q : Que) (s : Int) (hb : qFit q.bx) (H : Heap) :
    WC Try.prog 14 [q.av, .int .i64 s] H fun r H' => (∃ v w, r = .tup [.agg [.int .i64 (takeR q s).1.next, v], w, .int .i64 (takeR q s).2.2] ∧ QO H.length H' v (takeR q s).1.bx ∧ TO H.length H' w (takeR q s).2.1) ∧ Keep none H H' := by
  refine WC_of_K fun K hK => ?_
  have ck := fun J => tcheck_spec q hb J
  by_cases hq : q.may
  rotate_left
  · rw [queE_bad hq] at ck
    rw [show takeR q s = (que0, tkt0, 8) by unfold takeR; rw [if_pos hq]] at hK
    unfold Que.av at *
    simp only at hK
    refine WC_of_body hT Try.func14 rfl (by simp [Try.f14]) (by simp [Try.f14]) (wx_sound hT _ ?_)
    simp only [Try.f14]
    repeat' (first | simp only [go_sem, Nat.reduceLT, Nat.reduceEqDiff, Nat.reduceAdd, Nat.reduceMul, Nat.reduceSub, Nat.reduceLeDiff, Int.reduceToNat, Int.reduceNeg, Int.reduceLT, Int.reduceLE, Int.reduceEq, reduceCtorEq, Int.natCast_zero, Int.natCast_one, Int.cast_ofNat_Int, Bool.not_not, false_eq_decide, true_eq_decide, hread0, hreadk, read_cons0, read_consk, astore_h0, astore_hk, hget0, hgetk, hset0, hsetk, hlen, hcat, Nat.add_assoc, Nat.add_zero, Nat.zero_add, List.length_append, and_true, true_and, AV.flat, *, -hK, -ck, -hq, -hb] | refine WC.call (ck _) ?_ | with_reducible refine IfB_dec (fun h => ?_) (fun h => ?_) | with_reducible refine Guard_dec (fun h => ?_) (fun h => ?_) | with_reducible refine Guard_ndec (fun h => ?_) (fun h => ?_) | with_reducible refine Guard_not (fun h => ?_) (fun h => ?_) | with_reducible refine IfB_ndec (fun h => ?_) (fun h => ?_) | with_reducible refine IfB_not (fun h => ?_) (fun h => ?_) | with_reducible refine Guard_split (fun h => ?_) (fun h => ?_) | with_reducible refine IfB_split (fun h => ?_) (fun h => ?_))
    exact hK _ _ ⟨⟨_, _, rfl, .inl ⟨rfl, rfl⟩, .nils, rfl, OwnE.nils _ _ _⟩, Keep.app _ _ _⟩
  rw [queE_ok hq] at ck
  have htk : takeR q s = if s < 0 ∨ s ≥ q.bx.length then ((que0, tkt0, 2) : Que × Tkt × Int) else if readyB q.bx s.toNat = false then (que0, tkt0, 6)
      else match q.bx[s.toNat]?.getD [] with
        | [] => (que0, tkt0, 6)
        | t :: _ => (⟨q.next, takeBx q.bx (shardsL t q.bx.length)⟩, t, 0) := by unfold takeR; rw [if_neg (not_not_intro hq)]; rfl
  by_cases i1 : s < 0
  · rw [show takeR q s = (que0, tkt0, 2) by rw [htk, if_pos (.inl i1)]] at hK
    unfold Que.av at *
    simp only at hK
    refine WC_of_body hT Try.func14 rfl (by simp [Try.f14]) (by simp [Try.f14]) (wx_sound hT _ ?_)
    simp only [Try.f14]
    repeat' (first | simp only [go_sem, Nat.reduceLT, Nat.reduceEqDiff, Nat.reduceAdd, Nat.reduceMul, Nat.reduceSub, Nat.reduceLeDiff, Int.reduceToNat, Int.reduceNeg, Int.reduceLT, Int.reduceLE, Int.reduceEq, reduceCtorEq, Int.natCast_zero, Int.natCast_one, Int.cast_ofNat_Int, Bool.not_not, false_eq_decide, true_eq_decide, hread0, hreadk, read_cons0, read_consk, astore_h0, astore_hk, hget0, hgetk, hset0, hsetk, hlen, hcat, Nat.add_assoc, Nat.add_zero, Nat.zero_add, List.length_append, and_true, true_and, AV.flat, *, -hK, -ck, -hq, -hb, -htk] | refine WC.call (ck _) ?_ | with_reducible refine IfB_dec (fun h => ?_) (fun h => ?_) | with_reducible refine Guard_dec (fun h => ?_) (fun h => ?_) | with_reducible refine Guard_ndec (fun h => ?_) (fun h => ?_) | with_reducible refine Guard_not (fun h => ?_) (fun h => ?_) | with_reducible refine IfB_ndec (fun h => ?_) (fun h => ?_) | with_reducible refine IfB_not (fun h => ?_) (fun h => ?_) | with_reducible refine Guard_split (fun h => ?_) (fun h => ?_) | with_reducible refine IfB_split (fun h => ?_) (fun h => ?_))
    exact hK _ _ ⟨⟨_, _, rfl, .inl ⟨rfl, rfl⟩, .nils, rfl, OwnE.nils _ _ _⟩, Keep.app _ _ _⟩
  by_cases i2 : s ≥ q.bx.length
  · rw [show takeR q s = (que0, tkt0, 2) by rw [htk, if_pos (.inr i2)]] at hK
    unfold Que.av at *
    simp only at hK
    refine WC_of_body hT Try.func14 rfl (by simp [Try.f14]) (by simp [Try.f14]) (wx_sound hT _ ?_)
    simp only [Try.f14]
    repeat' (first | simp only [go_sem, Nat.reduceLT, Nat.reduceEqDiff, Nat.reduceAdd, Nat.reduceMul, Nat.reduceSub, Nat.reduceLeDiff, Int.reduceToNat, Int.reduceNeg, Int.reduceLT, Int.reduceLE, Int.reduceEq, reduceCtorEq, Int.natCast_zero, Int.natCast_one, Int.cast_ofNat_Int, Bool.not_not, false_eq_decide, true_eq_decide, hread0, hreadk, read_cons0, read_consk, astore_h0, astore_hk, hget0, hgetk, hset0, hsetk, hlen, hcat, Nat.add_assoc, Nat.add_zero, Nat.zero_add, List.length_append, and_true, true_and, AV.flat, *, -hK, -ck, -hq, -hb, -htk] | refine WC.call (ck _) ?_ | with_reducible refine IfB_dec (fun h => ?_) (fun h => ?_) | with_reducible refine Guard_dec (fun h => ?_) (fun h => ?_) | with_reducible refine Guard_ndec (fun h => ?_) (fun h => ?_) | with_reducible refine Guard_not (fun h => ?_) (fun h => ?_) | with_reducible refine IfB_ndec (fun h => ?_) (fun h => ?_) | with_reducible refine IfB_not (fun h => ?_) (fun h => ?_) | with_reducible refine Guard_split (fun h => ?_) (fun h => ?_) | with_reducible refine IfB_split (fun h => ?_) (fun h => ?_))
    exact hK _ _ ⟨⟨_, _, rfl, .inl ⟨rfl, rfl⟩, .nils, rfl, OwnE.nils _ _ _⟩, Keep.app _ _ _⟩
  rw [if_neg (by omega)] at htk
  obtain ⟨k, rfl⟩ : ∃ k : Nat, s = k := ⟨s.toNat, by omega⟩
  rw [Int.toNat_natCast] at htk
  have hk : k < q.bx.length := by omega
  have rd := fun J => ready_spec q hq hb k hk J
  cases hr : readyB q.bx k with
  | false =>
    rw [hr] at rd
    rw [show takeR q k = (que0, tkt0, 6) by rw [htk, if_pos hr]] at hK
    unfold Que.av at *
    simp only at hK
    refine WC_of_body hT Try.func14 rfl (by simp [Try.f14]) (by simp [Try.f14]) (wx_sound hT _ ?_)
    simp only [Try.f14]
    repeat' (first | simp only [go_sem, Nat.reduceLT, Nat.reduceEqDiff, Nat.reduceAdd, Nat.reduceMul, Nat.reduceSub, Nat.reduceLeDiff, Int.reduceToNat, Int.reduceNeg, Int.reduceLT, Int.reduceLE, Int.reduceEq, reduceCtorEq, Int.natCast_zero, Int.natCast_one, Int.cast_ofNat_Int, Bool.not_not, false_eq_decide, true_eq_decide, hread0, hreadk, read_cons0, read_consk, astore_h0, astore_hk, hget0, hgetk, hset0, hsetk, hlen, hcat, Nat.add_assoc, Nat.add_zero, Nat.zero_add, List.length_append, and_true, true_and, AV.flat, *, -hK, -ck, -hq, -hb, -htk, -rd, -hr] | refine WC.call (ck _) ?_ | refine WC.call (rd _) ?_ | with_reducible refine IfB_dec (fun h => ?_) (fun h => ?_) | with_reducible refine Guard_dec (fun h => ?_) (fun h => ?_) | with_reducible refine Guard_ndec (fun h => ?_) (fun h => ?_) | with_reducible refine Guard_not (fun h => ?_) (fun h => ?_) | with_reducible refine IfB_ndec (fun h => ?_) (fun h => ?_) | with_reducible refine IfB_not (fun h => ?_) (fun h => ?_) | with_reducible refine Guard_split (fun h => ?_) (fun h => ?_) | with_reducible refine IfB_split (fun h => ?_) (fun h => ?_))
    exact hK _ _ ⟨⟨_, _, rfl, .inl ⟨rfl, rfl⟩, .nils, rfl, OwnE.nils _ _ _⟩, Keep.app _ _ _⟩
  | true =>
  rw [hr] at rd
  rw [if_neg (by rw [hr]; decide)] at htk
  have hne : q.bx[k] ≠ [] := fun e => by
    unfold readyB at hr
    rw [List.getElem?_eq_getElem hk, e] at hr
    cases hr
  have hall := hq.2.2.2.2
  have hbx := (hall _ (List.getElem_mem hk)).2
  obtain ⟨t, l, hbk⟩ : ∃ t l, q.bx[k] = t :: l := by
    cases h : q.bx[k] with
    | nil => exact absurd h hne
    | cons t l => exact ⟨t, l, rfl⟩
  rw [List.getElem?_eq_getElem hk, Option.getD_some, hbk] at htk
  simp only at htk
  rw [htk] at hK
  simp only at hK
  clear htk
  have hw := (boxB_mem hbx t (by rw [hbk]; exact .head _)).2
  have hnod := shardsL_nodup t q.bx.length
  have hjs : ∀ j ∈ shardsL t q.bx.length, ∃ k : Nat, j = k ∧ ∃ h : k < q.bx.length, q.bx[k] ≠ [] := fun j hj => by
    rw [← hw] at hj
    obtain ⟨k, rfl, hk, htk⟩ := mem_whereL.1 hj
    exact ⟨k, rfl, hk, fun e => by rw [e] at htk; cases htk⟩
  obtain ⟨hq1, hq2⟩ := (hb.2 _ (List.getElem_mem hk)).2 t (by rw [hbk]; exact .head _)
  have sh := fun (J : Heap) (m : Nat) (kv : AV) (ho : OwnE Enc.str m J kv t.cmd.keys) => tshards_lent t q.bx.length hq.2.1 hq1 hq2 ho
  have tw := fun J => twin3 q hb.1 hb J
  have c1 := fun (J : Heap) (m : Nat) (kv : AV) (ho : OwnE Enc.str m J kv t.cmd.keys) => one_lent t (by omega) ho
  have hl4 := hq.2.1
  have hsl := shardsL_len t q.bx.length
  clear hw hall hbx hr hne hb hq
  obtain ⟨nx, bs⟩ := q
  simp only at hl4 hK sh hsl hjs hnod ck rd tw hk hbk i2
  have hplen := fun js => takeBx_length bs js
  have hpst := fun js k => takeBx_snoc bs js k
  have hp0 : takeBx bs [] = bs := rfl
  have hpget := fun js k => takeBx_get (js := js) (k := k) bs
  generalize takeBx bs = pb at *
  generalize shardsL t bs.length = js at *
  unfold Que.av at *
  unfold Tkt.avK at c1 sh
  simp only at ck tw rd
  refine WC_of_body hT Try.func14 rfl (by simp [Try.f14]) (by simp [Try.f14]) (wx_sound hT _ ?_)
  simp only [Try.f14]
  repeat' (first | simp only [go_sem, Nat.reduceLT, Nat.reduceEqDiff, Nat.reduceAdd, Nat.reduceMul, Nat.reduceSub, Nat.reduceLeDiff, Int.reduceToNat, Int.reduceNeg, Int.reduceLT, Int.reduceLE, Int.reduceEq, reduceCtorEq, Int.natCast_zero, Int.natCast_one, Int.cast_ofNat_Int, Bool.not_not, false_eq_decide, true_eq_decide, hread0, hreadk, read_cons0, read_consk, astore_h0, astore_hk, hget0, hgetk, hset0, hsetk, hlen, hcat, Nat.add_assoc, Nat.add_zero, Nat.zero_add, List.length_append, and_true, true_and, AV.flat, *, -hK, -ck, -rd, -sh, -c1, -tw, -hjs, -hplen, -hpst, -hp0, -hpget, -hnod, -hbk, -hq1, -hq2] | refine WC.call (ck _) ?_ | refine WC.call (rd _) ?_ | with_reducible refine IfB_dec (fun h => ?_) (fun h => ?_) | with_reducible refine Guard_dec (fun h => ?_) (fun h => ?_) | with_reducible refine Guard_ndec (fun h => ?_) (fun h => ?_) | with_reducible refine Guard_not (fun h => ?_) (fun h => ?_) | with_reducible refine IfB_ndec (fun h => ?_) (fun h => ?_) | with_reducible refine IfB_not (fun h => ?_) (fun h => ?_) | with_reducible refine Guard_split (fun h => ?_) (fun h => ?_) | with_reducible refine IfB_split (fun h => ?_) (fun h => ?_))
  refine (tw _).mono ?_
  rintro _ H1 ⟨⟨p, ps, rfl, W⟩, kH⟩
  clear tw ck rd
  simp only [List.length_append, List.length_cons, List.length_nil, Nat.zero_add, Nat.reduceAdd] at W
  have hH1 : H.length + 3 ≤ H1.length := by have := kH.len; simpa using this
  have y1 : H1[H.length + 1]? = some (⟨[.int .i64 0, .nils], 0, .full⟩ : Blk) := kH.get (by rw [hgetk]; rfl) (by simp)
  have y2 : H1[H.length + 2]? = some (⟨[.int .i64 0, .int .u8 0, .int .u8 0, .int .i64 0, .nils, .str [], .int .u32 0, .int .i64 0, .int .u64 0, .int .u64 0, .int .i64 0, .int .i64 0], 0, .full⟩ : Blk) := kH.get (by rw [hgetk]; rfl) (by simp)
  obtain ⟨x, hx, hgx, ow, hxp⟩ := W.get (i := k) hk
  rw [hbk] at ow
  have W1 := W.keep (Keep.app none H1 [(⟨[.int .i64 nx, .sl p 0 bs.length none], 0, .full⟩ : Blk)])
  have ad := BxO.addr (p := p) (T' := T) se22 hk
  have rd := W1.read hx
  obtain ⟨b0, kv, ai, rd0, hko, hb0⟩ := (ow.keep0 (Keep.app none H1 [(⟨[.int .i64 nx, .sl p 0 bs.length none], 0, .full⟩ : Blk)])).first (T' := T) se31
  unfold Tkt.csK at rd0
  have hkv := hko.1.one
  have hxo := ow.one
  repeat' (first | simp only [go_sem, Nat.reduceLT, Nat.reduceEqDiff, Nat.reduceAdd, Nat.reduceMul, Nat.reduceSub, Nat.reduceLeDiff, Int.reduceToNat, Int.reduceNeg, Int.reduceLT, Int.reduceLE, Int.reduceEq, reduceCtorEq, Int.natCast_zero, Int.natCast_one, Int.cast_ofNat_Int, Bool.not_not, false_eq_decide, true_eq_decide, hread0, hreadk, read_cons0, read_consk, astore_h0, astore_hk, hget0, hgetk, hset0, hsetk, hlen, hcat, Nat.add_assoc, Nat.add_zero, Nat.zero_add, List.length_append, and_true, true_and, AV.flat, hxo, one_solid hxo, one_cells hxo, hkv, one_solid hkv, one_cells hkv, *, -hK, -sh, -c1, -hjs, -hplen, -hpst, -hp0, -hpget, -hnod, -hbk, -hq1, -hq2, -W, -W1, -kH, -hH1, -y1, -y2, -hx, -hgx, -ow, -hxp, -hb0, -hko] | with_reducible refine IfB_dec (fun h => ?_) (fun h => ?_) | with_reducible refine Guard_dec (fun h => ?_) (fun h => ?_) | with_reducible refine Guard_ndec (fun h => ?_) (fun h => ?_) | with_reducible refine Guard_not (fun h => ?_) (fun h => ?_) | with_reducible refine IfB_ndec (fun h => ?_) (fun h => ?_) | with_reducible refine IfB_not (fun h => ?_) (fun h => ?_) | with_reducible refine Guard_split (fun h => ?_) (fun h => ?_) | with_reducible refine IfB_split (fun h => ?_) (fun h => ?_))
  have x3 : (H1 ++ [(⟨[.int .i64 nx, .sl p 0 bs.length none], 0, .full⟩ : Blk), (⟨[.int .i64 t.num, .int .u8 t.kind, .int .u8 t.cmd.kind, .int .i64 t.cmd.ten, kv, .str t.cmd.val, .int .u32 t.cmd.flags, .int .i64 t.cmd.for_, .int .u64 t.cmd.uniq, .int .u64 t.cmd.by_, .int .i64 t.ten, .int .i64 t.to], 0, .full⟩ : Blk)])[H1.length]? = some (⟨[.int .i64 nx, .sl p 0 bs.length none], 0, .full⟩ : Blk) := by simp
  have hko := hko.keep (Keep.app none _ [(⟨[.int .i64 t.num, .int .u8 t.kind, .int .u8 t.cmd.kind, .int .i64 t.cmd.ten, kv, .str t.cmd.val, .int .u32 t.cmd.flags, .int .i64 t.cmd.for_, .int .u64 t.cmd.uniq, .int .u64 t.cmd.by_, .int .i64 t.ten, .int .i64 t.to], 0, .full⟩ : Blk)])
  rw [List.append_assoc] at hko
  simp only [List.cons_append, List.nil_append] at hko
  refine (sh _ _ kv hko.1).mono ?_
  rintro _ J9 ⟨rfl, hJ9⟩
  subst hJ9
  clear sh
  repeat' (first | simp only [go_sem, Nat.reduceLT, Nat.reduceEqDiff, Nat.reduceAdd, Nat.reduceMul, Nat.reduceSub, Nat.reduceLeDiff, Int.reduceToNat, Int.reduceNeg, Int.reduceLT, Int.reduceLE, Int.reduceEq, reduceCtorEq, Int.natCast_zero, Int.natCast_one, Int.cast_ofNat_Int, Bool.not_not, false_eq_decide, true_eq_decide, hread0, hreadk, read_cons0, read_consk, astore_h0, astore_hk, hget0, hgetk, hset0, hsetk, hlen, hcat, Nat.add_assoc, Nat.add_zero, Nat.zero_add, List.length_append, and_true, true_and, AV.flat, x3, get_app x3, read_get x3, read_app x3, hxo, one_solid hxo, one_cells hxo, hkv, one_solid hkv, one_cells hkv, *, -hK, -c1, -hjs, -hplen, -hpst, -hp0, -hpget, -hnod, -hbk, -hq1, -hq2, -W, -W1, -kH, -hH1, -y1, -y2, -hx, -hgx, -ow, -hxp, -hb0, -rd, -rd0, -ai, -ad, -hko] | with_reducible refine IfB_dec (fun h => ?_) (fun h => ?_) | with_reducible refine Guard_dec (fun h => ?_) (fun h => ?_) | with_reducible refine Guard_ndec (fun h => ?_) (fun h => ?_) | with_reducible refine Guard_not (fun h => ?_) (fun h => ?_) | with_reducible refine IfB_ndec (fun h => ?_) (fun h => ?_) | with_reducible refine IfB_not (fun h => ?_) (fun h => ?_) | with_reducible refine Guard_split (fun h => ?_) (fun h => ?_) | with_reducible refine IfB_split (fun h => ?_) (fun h => ?_))
  have hpl := W.lt
  have hpg := W.ge
  generalize hG : (H1 ++ [(⟨[.int .i64 nx, .sl p 0 bs.length none], 0, .full⟩ : Blk), (⟨[.int .i64 t.num, .int .u8 t.kind, .int .u8 t.cmd.kind, .int .i64 t.cmd.ten, kv, .str t.cmd.val, .int .u32 t.cmd.flags, .int .i64 t.cmd.for_, .int .u64 t.cmd.uniq, .int .u64 t.cmd.by_, .int .i64 t.ten, .int .i64 t.to], 0, .full⟩ : Blk)] : Heap) = G
  have x1 : G[H.length + 1]? = some (⟨[.int .i64 0, .nils], 0, .full⟩ : Blk) := by rw [← hG]; exact get_app y1 _
  have x2 : G[H.length + 2]? = some (⟨[.int .i64 0, .int .u8 0, .int .u8 0, .int .i64 0, .nils, .str [], .int .u32 0, .int .i64 0, .int .u64 0, .int .u64 0, .int .i64 0, .int .i64 0], 0, .full⟩ : Blk) := by rw [← hG]; exact get_app y2 _
  have x4 : G[H1.length + 1]? = some (⟨[.int .i64 t.num, .int .u8 t.kind, .int .u8 t.cmd.kind, .int .i64 t.cmd.ten, kv, .str t.cmd.val, .int .u32 t.cmd.flags, .int .i64 t.cmd.for_, .int .u64 t.cmd.uniq, .int .u64 t.cmd.by_, .int .i64 t.ten, .int .i64 t.to], 0, .full⟩ : Blk) := by rw [← hG]; simp
  rw [hG] at x3
  have kG : Keep none H G := by rw [← hG]; exact (((Keep.app none H _).trans kH).trans (Keep.app none _ _))
  rw [hG] at hko
  have WG : TlO3 (H.length + 3) G p ps bs := by rw [← hG]; exact (W.keep (Keep.app none H1 _)).tl3
  generalize H1.length = ob at *
  clear hG y1 y2 kH W W1 hx hgx ow hxp hb0 rd rd0 ai ad hxo
  rw [← hp0] at WG
  refine WX_loopS [4, 5, 8, 9, 49, 50] (fun k fr' J => ∃ (i : Nat) (qs : List AV), k = js.length - i ∧ i ≤ js.length ∧ fr'.get 51 = .int .i64 i ∧ Keep none H J ∧ J[H.length + 1]? = some (⟨[.int .i64 0, .nils], 0, .full⟩ : Blk) ∧ J[H.length + 2]? = some (⟨[.int .i64 0, .int .u8 0, .int .u8 0, .int .i64 0, .nils, .str [], .int .u32 0, .int .i64 0, .int .u64 0, .int .u64 0, .int .i64 0, .int .i64 0], 0, .full⟩ : Blk) ∧ J[ob]? = some (⟨[.int .i64 nx, .sl p 0 bs.length none], 0, .full⟩ : Blk) ∧ J[ob + 1]? = some (⟨[.int .i64 t.num, .int .u8 t.kind, .int .u8 t.cmd.kind, .int .i64 t.cmd.ten, kv, .str t.cmd.val, .int .u32 t.cmd.flags, .int .i64 t.cmd.for_, .int .u64 t.cmd.uniq, .int .u64 t.cmd.by_, .int .i64 t.ten, .int .i64 t.to], 0, .full⟩ : Blk) ∧ TlO3 (H.length + 3) J p qs (pb (js.take i)) ∧ KeyO (H.length + 3) J p (t, kv)) js.length ⟨0, ps, rfl, by omega, by simp only [go_sem, Nat.reduceLT, Nat.reduceEqDiff, Nat.reduceAdd, Nat.reduceMul, Nat.reduceSub, Nat.reduceLeDiff, Int.reduceToNat, Int.reduceNeg, Int.reduceLT, Int.reduceLE, Int.reduceEq, reduceCtorEq]; rfl, kG, x1, x2, x3, x4, WG, hko⟩ ?_
  clear WG x1 x2 x3 x4 kG hko
  rintro kn fr' J A R hA hs hg hR ⟨i, qs, rfl, hi, f51, kJ, g1, g2, g3, g4, W, hko⟩
  have s4 := hg 4 (by decide)
  have s5 := hg 5 (by decide)
  have s8 := hg 8 (by decide)
  have s9 := hg 9 (by decide)
  have s49 := hg 49 (by decide)
  have s50 := hg 50 (by decide)
  simp only [Fr.get_put, Fr.get_init, List.getD_cons_zero, List.getD_cons_succ, Nat.reduceEqDiff, if_true, if_false] at s4 s5 s8 s9 s49 s50
  refine wx_sound hT _ ?_
  have hJl := (List.getElem?_eq_some_iff.1 g4).1
  have hpl2 := W.lt
  by_cases hli : i < js.length
  rotate_left
  · have i5 : ¬ (i : Int) < js.length := by omega
    have hie : i = js.length := by omega
    rw [hie, List.take_length] at W
    have wn : 1 = 1 := rfl
    repeat' (first | simp only [go_sem, Nat.reduceLT, Nat.reduceEqDiff, Nat.reduceAdd, Nat.reduceMul, Nat.reduceSub, Nat.reduceLeDiff, Int.reduceToNat, Int.reduceNeg, Int.reduceLT, Int.reduceLE, Int.reduceEq, reduceCtorEq, Int.natCast_zero, Int.natCast_one, Int.cast_ofNat_Int, Bool.not_not, false_eq_decide, true_eq_decide, hread0, hreadk, read_cons0, read_consk, astore_h0, astore_hk, hget0, hgetk, hset0, hsetk, hlen, hcat, Nat.add_assoc, Nat.add_zero, Nat.zero_add, List.length_append, and_true, true_and, AV.flat, g3, get_app g3, read_get g3, read_app g3, g4, get_app g4, read_get g4, read_app g4, hkv, one_solid hkv, one_cells hkv, *, -hK, -c1, -hjs, -hplen, -hpst, -hp0, -hpget, -hnod, -hbk, -hq1, -hq2, -W, -kJ, -g1, -g2, -hli, -hie, -hJl, -hpl2, -hko] | with_reducible refine IfB_dec (fun h => ?_) (fun h => ?_) | with_reducible refine Guard_dec (fun h => ?_) (fun h => ?_) | with_reducible refine Guard_ndec (fun h => ?_) (fun h => ?_) | with_reducible refine Guard_not (fun h => ?_) (fun h => ?_) | with_reducible refine IfB_ndec (fun h => ?_) (fun h => ?_) | with_reducible refine IfB_not (fun h => ?_) (fun h => ?_) | with_reducible refine Guard_split (fun h => ?_) (fun h => ?_) | with_reducible refine IfB_split (fun h => ?_) (fun h => ?_))
    refine WX_rows hT hmix [(0, none), (1, none), (2, some [true, false]), (3, some [true, true, true]), (4, some [true, true, true, true]), (5, none)] (by kernel_rfl) ?_
    repeat' (first | simp only [go_sem, Nat.reduceLT, Nat.reduceEqDiff, Nat.reduceAdd, Nat.reduceMul, Nat.reduceSub, Nat.reduceLeDiff, Int.reduceToNat, Int.reduceNeg, Int.reduceLT, Int.reduceLE, Int.reduceEq, reduceCtorEq, Int.natCast_zero, Int.natCast_one, Int.cast_ofNat_Int, Bool.not_not, false_eq_decide, true_eq_decide, hread0, hreadk, read_cons0, read_consk, astore_h0, astore_hk, hget0, hgetk, hset0, hsetk, hlen, hcat, Nat.add_assoc, Nat.add_zero, Nat.zero_add, List.length_append, and_true, true_and, AV.flat, g3, get_app g3, read_get g3, read_app g3, g4, get_app g4, read_get g4, read_app g4, hkv, one_solid hkv, one_cells hkv, *, -hK, -c1, -hjs, -hplen, -hpst, -hp0, -hpget, -hnod, -hbk, -hq1, -hq2, -W, -kJ, -g1, -g2, -hli, -hie, -hJl, -hpl2, -hko] | with_reducible refine IfB_dec (fun h => ?_) (fun h => ?_) | with_reducible refine Guard_dec (fun h => ?_) (fun h => ?_) | with_reducible refine Guard_ndec (fun h => ?_) (fun h => ?_) | with_reducible refine Guard_not (fun h => ?_) (fun h => ?_) | with_reducible refine IfB_ndec (fun h => ?_) (fun h => ?_) | with_reducible refine IfB_not (fun h => ?_) (fun h => ?_) | with_reducible refine Guard_split (fun h => ?_) (fun h => ?_) | with_reducible refine IfB_split (fun h => ?_) (fun h => ?_))
    refine (c1 _ _ kv hko.1).mono ?_
    rintro _ Jk ⟨⟨kw, rfl, okw⟩, kk0⟩
    have hkw := okw.one
    have n1 := kk0.get g1 (by simp)
    have n2 := kk0.get g2 (by simp)
    have n3 := kk0.get g3 (by simp)
    have n4 := kk0.get g4 (by simp)
    have hjk := kk0.len
    have W3 := W.keep0 kk0
    have hok : H.length + 3 ≤ J.length := by have := kJ.len; have := W.ge; omega
    have u2 : (List.set Jk (H.length + 1) (⟨[.int .i64 nx, .sl p 0 bs.length none], 0, .full⟩ : Blk))[H.length + 2]? = some (⟨[.int .i64 0, .int .u8 0, .int .u8 0, .int .i64 0, .nils, .str [], .int .u32 0, .int .i64 0, .int .u64 0, .int .u64 0, .int .i64 0, .int .i64 0], 0, .full⟩ : Blk) := by rw [List.getElem?_set_ne (by omega)]; exact n2
    have u3 : (List.set Jk (H.length + 1) (⟨[.int .i64 nx, .sl p 0 bs.length none], 0, .full⟩ : Blk))[ob]? = some (⟨[.int .i64 nx, .sl p 0 bs.length none], 0, .full⟩ : Blk) := by rw [List.getElem?_set_ne (by omega)]; exact n3
    have u4 : (List.set Jk (H.length + 1) (⟨[.int .i64 nx, .sl p 0 bs.length none], 0, .full⟩ : Blk))[ob + 1]? = some (⟨[.int .i64 t.num, .int .u8 t.kind, .int .u8 t.cmd.kind, .int .i64 t.cmd.ten, kv, .str t.cmd.val, .int .u32 t.cmd.flags, .int .i64 t.cmd.for_, .int .u64 t.cmd.uniq, .int .u64 t.cmd.by_, .int .i64 t.ten, .int .i64 t.to], 0, .full⟩ : Blk) := by rw [List.getElem?_set_ne (by omega)]; exact n4
    have W2 := (W3.low (G := List.set (List.set Jk (H.length + 1) (⟨[.int .i64 nx, .sl p 0 bs.length none], 0, .full⟩ : Blk)) (H.length + 2) (⟨[.int .i64 t.num, .int .u8 t.kind, .int .u8 t.cmd.kind, .int .i64 t.cmd.ten, kw, .str t.cmd.val, .int .u32 t.cmd.flags, .int .i64 t.cmd.for_, .int .u64 t.cmd.uniq, .int .u64 t.cmd.by_, .int .i64 t.ten, .int .i64 t.to], 0, .full⟩ : Blk)) fun b h1 h2 => by rw [List.getElem?_set_ne (by omega), List.getElem?_set_ne (by omega)]).mono (m2 := H.length) (by omega)
    have kF : Keep none H (List.set (List.set Jk (H.length + 1) (⟨[.int .i64 nx, .sl p 0 bs.length none], 0, .full⟩ : Blk)) (H.length + 2) (⟨[.int .i64 t.num, .int .u8 t.kind, .int .u8 t.cmd.kind, .int .i64 t.cmd.ten, kw, .str t.cmd.val, .int .u32 t.cmd.flags, .int .i64 t.cmd.for_, .int .u64 t.cmd.uniq, .int .u64 t.cmd.by_, .int .i64 t.ten, .int .i64 t.to], 0, .full⟩ : Blk)) := ⟨by rw [List.length_set, List.length_set]; have := kJ.len; omega, fun b hb2 _ => by rw [List.getElem?_set_ne (by omega), List.getElem?_set_ne (by omega), kk0.at_ b (by have := kJ.len; omega) (by simp)]; exact kJ.at_ b hb2 (by simp)⟩
    have okw2 : OwnE Enc.str H.length (List.set (List.set Jk (H.length + 1) (⟨[.int .i64 nx, .sl p 0 bs.length none], 0, .full⟩ : Blk)) (H.length + 2) (⟨[.int .i64 t.num, .int .u8 t.kind, .int .u8 t.cmd.kind, .int .i64 t.cmd.ten, kw, .str t.cmd.val, .int .u32 t.cmd.flags, .int .i64 t.cmd.for_, .int .u64 t.cmd.uniq, .int .u64 t.cmd.by_, .int .i64 t.ten, .int .i64 t.to], 0, .full⟩ : Blk)) kw t.cmd.keys := own_same (Own.mono okw (by omega)) fun b hb => by
      have := okw.ge hb
      rw [List.getElem?_set_ne (by omega), List.getElem?_set_ne (by omega)]
    have u6 : (List.set (List.set Jk (H.length + 1) (⟨[.int .i64 nx, .sl p 0 bs.length none], 0, .full⟩ : Blk)) (H.length + 2) (⟨[.int .i64 t.num, .int .u8 t.kind, .int .u8 t.cmd.kind, .int .i64 t.cmd.ten, kw, .str t.cmd.val, .int .u32 t.cmd.flags, .int .i64 t.cmd.for_, .int .u64 t.cmd.uniq, .int .u64 t.cmd.by_, .int .i64 t.ten, .int .i64 t.to], 0, .full⟩ : Blk))[H.length + 1]? = some (⟨[.int .i64 nx, .sl p 0 bs.length none], 0, .full⟩ : Blk) := by rw [List.getElem?_set_ne (by omega), List.getElem?_set_self (by omega)]
    clear okw c1
    repeat' (first | simp only [go_sem, Nat.reduceLT, Nat.reduceEqDiff, Nat.reduceAdd, Nat.reduceMul, Nat.reduceSub, Nat.reduceLeDiff, Int.reduceToNat, Int.reduceNeg, Int.reduceLT, Int.reduceLE, Int.reduceEq, reduceCtorEq, Int.natCast_zero, Int.natCast_one, Int.cast_ofNat_Int, Bool.not_not, false_eq_decide, true_eq_decide, hread0, hreadk, read_cons0, read_consk, astore_h0, astore_hk, hget0, hgetk, hset0, hsetk, hlen, hcat, Nat.add_assoc, Nat.add_zero, Nat.zero_add, List.length_append, and_true, true_and, AV.flat, n3, get_app n3, read_get n3, read_app n3, n4, get_app n4, read_get n4, read_app n4, u6, get_app u6, read_get u6, read_app u6, u3, get_app u3, read_get u3, read_app u3, u4, get_app u4, read_get u4, read_app u4, n1, get_app n1, read_get n1, read_app n1, astore_get n1, astore_app n1, get_set n1, get_set_app n1, read_set n1, read_set_app n1, astore_set n1, astore_set_app n1, List.set_set, hget0s, hgetks, hread0s, hreadks, List.length_set, u2, get_app u2, read_get u2, read_app u2, astore_get u2, astore_app u2, get_set u2, get_set_app u2, read_set u2, read_set_app u2, astore_set u2, astore_set_app u2, List.set_set, hget0s, hgetks, hread0s, hreadks, List.length_set, hkv, one_solid hkv, one_cells hkv, hkw, one_solid hkw, one_cells hkw, *, -hK, -hjs, -hplen, -hpst, -hp0, -hpget, -hnod, -hbk, -hq1, -hq2, -W, -kJ, -hli, -hie, -hJl, -hpl2, -W2, -kF, -W3, -hko, -hjk, -hok, -okw2, -kk0, -g1, -g2, -g3, -g4] | with_reducible refine IfB_dec (fun h => ?_) (fun h => ?_) | with_reducible refine Guard_dec (fun h => ?_) (fun h => ?_) | with_reducible refine Guard_ndec (fun h => ?_) (fun h => ?_) | with_reducible refine Guard_not (fun h => ?_) (fun h => ?_) | with_reducible refine IfB_ndec (fun h => ?_) (fun h => ?_) | with_reducible refine IfB_not (fun h => ?_) (fun h => ?_) | with_reducible refine Guard_split (fun h => ?_) (fun h => ?_) | with_reducible refine IfB_split (fun h => ?_) (fun h => ?_))
    exact hK _ _ ⟨⟨_, _, rfl, .inr ⟨p, qs, by rw [hplen], W2⟩, kw, rfl, okw2⟩, kF⟩
  have i5 : (i : Int) < js.length := by omega
  have e7 := inc_id hli (by omega)
  have e8 := at_enc (E := Enc.int .i64) (T := T) (k := .i64) se27 hli rfl
  rw [int_cells] at e8
  obtain ⟨kk, hkk, hkl, hkne⟩ := hjs _ (List.getElem_mem hli)
  have hpl1 : kk < (pb (js.take i)).length := by rw [hplen]; exact hkl
  obtain ⟨x, hx, hgx, ow⟩ := W.get (i := kk) hpl1
  have hold : (pb (js.take i))[kk] = bs[kk] := by
    have h1 := hpget (js.take i) kk (fun j hj => by obtain ⟨z, hz, _⟩ := hjs j (List.mem_of_mem_take hj); exact ⟨z, hz⟩) (by rw [← hkk]; exact nodup_take hnod hli)
    rw [List.getElem?_eq_getElem hpl1, List.getElem?_eq_getElem hkl] at h1
    exact Option.some.inj h1
  obtain ⟨u, ul, hu⟩ : ∃ u ul, bs[kk] = u :: ul := by
    cases h : bs[kk] with
    | nil => exact absurd h hkne
    | cons u ul => exact ⟨u, ul, rfl⟩
  rw [hold, hu] at ow
  have hst : pb (js.take (i + 1)) = (pb (js.take i)).set kk ul := by
    rw [List.take_succ_eq_append_getElem hli, hkk, hpst, List.getElem?_eq_getElem hpl1, hold, hu]; rfl
  have back2 : ∀ fr2 J3 qs2, A fr2 → fr2.get 51 = .int .i64 ((i + 1 : Nat) : Int) → Keep none H J3 → J3[H.length + 1]? = some (⟨[.int .i64 0, .nils], 0, .full⟩ : Blk) → J3[H.length + 2]? = some (⟨[.int .i64 0, .int .u8 0, .int .u8 0, .int .i64 0, .nils, .str [], .int .u32 0, .int .i64 0, .int .u64 0, .int .u64 0, .int .i64 0, .int .i64 0], 0, .full⟩ : Blk) → J3[ob]? = some (⟨[.int .i64 nx, .sl p 0 bs.length none], 0, .full⟩ : Blk) → J3[ob + 1]? = some (⟨[.int .i64 t.num, .int .u8 t.kind, .int .u8 t.cmd.kind, .int .i64 t.cmd.ten, kv, .str t.cmd.val, .int .u32 t.cmd.flags, .int .i64 t.cmd.for_, .int .u64 t.cmd.uniq, .int .u64 t.cmd.by_, .int .i64 t.ten, .int .i64 t.to], 0, .full⟩ : Blk) → TlO3 (H.length + 3) J3 p qs2 ((pb (js.take i)).set kk ul) → KeyO (H.length + 3) J3 p (t, kv) → R fr2 J3 := fun fr2 J3 qs2 ha j1 j2 j3 j4 j5 j6 j7 j8 => hR fr2 J3 ha (js.length - (i + 1)) (by omega) ⟨i + 1, qs2, rfl, by omega, j1, j2, j3, j4, j5, j6, by rw [hst]; exact j7, j8⟩
  rw [hkk] at e8
  have ad := BxO.addr (p := p) (T' := T) se22 hkl
  obtain ⟨y, hy1, hy2, hy3⟩ := ow.tail (T' := T) se31
  have rd := W.read hx
  have hys := hy2.one.2
  obtain ⟨st, rest, hsto, w1⟩ := W.store (T' := T) hx (te := 31) (by simp only [asize, td31, Option.map_some]) hys.1 hys.2
  have W2 := W.upd hx hy2 hy3 rest st hsto
  have hxo := ow.one.1
  have hyo := hy2.one.1
  have hpg2 := W.ge
  have hko2 : KeyO (H.length + 3) (List.set J p ⟨qs.set kk y ++ rest, 1, st⟩) p (t, kv) := hko.same fun b _ _ _ hb => List.getElem?_set_ne fun e => hb e.symm
  have kJ3 : Keep none H (List.set J p ⟨qs.set kk y ++ rest, 1, st⟩) := ⟨by rw [List.length_set]; exact kJ.len, fun b hb _ => by rw [List.getElem?_set_ne (by omega)]; exact kJ.at_ b hb (by simp)⟩
  generalize hG3 : (List.set J p ⟨qs.set kk y ++ rest, 1, st⟩ : Heap) = J4 at *
  have y3 : J4[H.length + 1]? = some (⟨[.int .i64 0, .nils], 0, .full⟩ : Blk) := by rw [← hG3, List.getElem?_set_ne (by omega)]; exact g1
  have y4 : J4[H.length + 2]? = some (⟨[.int .i64 0, .int .u8 0, .int .u8 0, .int .i64 0, .nils, .str [], .int .u32 0, .int .i64 0, .int .u64 0, .int .u64 0, .int .i64 0, .int .i64 0], 0, .full⟩ : Blk) := by rw [← hG3, List.getElem?_set_ne (by omega)]; exact g2
  have y5 : J4[ob]? = some (⟨[.int .i64 nx, .sl p 0 bs.length none], 0, .full⟩ : Blk) := by rw [← hG3, List.getElem?_set_ne (by omega)]; exact g3
  have y6 : J4[ob + 1]? = some (⟨[.int .i64 t.num, .int .u8 t.kind, .int .u8 t.cmd.kind, .int .i64 t.cmd.ten, kv, .str t.cmd.val, .int .u32 t.cmd.flags, .int .i64 t.cmd.for_, .int .u64 t.cmd.uniq, .int .u64 t.cmd.by_, .int .i64 t.ten, .int .i64 t.to], 0, .full⟩ : Blk) := by rw [← hG3, List.getElem?_set_ne (by omega)]; exact g4
  clear hG3 hR hst hp0 hpst hplen hpget hjs hkk hkne hold hu hys hsto hnod
  repeat' (first | simp only [go_sem, Nat.reduceLT, Nat.reduceEqDiff, Nat.reduceAdd, Nat.reduceMul, Nat.reduceSub, Nat.reduceLeDiff, Int.reduceToNat, Int.reduceNeg, Int.reduceLT, Int.reduceLE, Int.reduceEq, reduceCtorEq, Int.natCast_zero, Int.natCast_one, Int.cast_ofNat_Int, Bool.not_not, false_eq_decide, true_eq_decide, hread0, hreadk, read_cons0, read_consk, astore_h0, astore_hk, hget0, hgetk, hset0, hsetk, hlen, hcat, Nat.add_assoc, Nat.add_zero, Nat.zero_add, List.length_append, and_true, true_and, AV.flat, g3, get_app g3, read_get g3, read_app g3, hxo, one_solid hxo, one_cells hxo, hyo, one_solid hyo, one_cells hyo, hkv, one_solid hkv, one_cells hkv, *, -hK, -c1, -hbk, -hq1, -hq2, -W, -kJ, -g1, -g2, -g4, -hli, -hJl, -hpl2, -back2, -hpl1, -hx, -hgx, -ow, -hy2, -hko, -hko2, -hy3, -W2, -hpg2, -kJ3, -y3, -y4, -y5, -y6] | with_reducible refine IfB_dec (fun h => ?_) (fun h => ?_) | with_reducible refine Guard_dec (fun h => ?_) (fun h => ?_) | with_reducible refine Guard_ndec (fun h => ?_) (fun h => ?_) | with_reducible refine Guard_not (fun h => ?_) (fun h => ?_) | with_reducible refine IfB_ndec (fun h => ?_) (fun h => ?_) | with_reducible refine IfB_not (fun h => ?_) (fun h => ?_) | with_reducible refine Guard_split (fun h => ?_) (fun h => ?_) | with_reducible refine IfB_split (fun h => ?_) (fun h => ?_))
  refine WX_rows hT hmix [(0, none), (1, none), (2, none), (3, none), (4, none), (5, none), (6, none), (7, none), (8, none), (9, none), (10, some [true, true, true, true, true, true, true, true, true, true])] (by kernel_rfl) ?_
  repeat' (first | simp only [go_sem, Nat.reduceLT, Nat.reduceEqDiff, Nat.reduceAdd, Nat.reduceMul, Nat.reduceSub, Nat.reduceLeDiff, Int.reduceToNat, Int.reduceNeg, Int.reduceLT, Int.reduceLE, Int.reduceEq, reduceCtorEq, Int.natCast_zero, Int.natCast_one, Int.cast_ofNat_Int, Bool.not_not, false_eq_decide, true_eq_decide, hread0, hreadk, read_cons0, read_consk, astore_h0, astore_hk, hget0, hgetk, hset0, hsetk, hlen, hcat, Nat.add_assoc, Nat.add_zero, Nat.zero_add, List.length_append, and_true, true_and, AV.flat, g3, get_app g3, read_get g3, read_app g3, hxo, one_solid hxo, one_cells hxo, hyo, one_solid hyo, one_cells hyo, hkv, one_solid hkv, one_cells hkv, *, -hK, -c1, -hbk, -hq1, -hq2, -W, -kJ, -g1, -g2, -g4, -hli, -hJl, -hpl2, -back2, -hpl1, -hx, -hgx, -ow, -hy2, -hko, -hko2, -hy3, -W2, -hpg2, -kJ3, -y3, -y4, -y5, -y6] | with_reducible refine IfB_dec (fun h => ?_) (fun h => ?_) | with_reducible refine Guard_dec (fun h => ?_) (fun h => ?_) | with_reducible refine Guard_ndec (fun h => ?_) (fun h => ?_) | with_reducible refine Guard_not (fun h => ?_) (fun h => ?_) | with_reducible refine IfB_ndec (fun h => ?_) (fun h => ?_) | with_reducible refine IfB_not (fun h => ?_) (fun h => ?_) | with_reducible refine Guard_split (fun h => ?_) (fun h => ?_) | with_reducible refine IfB_split (fun h => ?_) (fun h => ?_))
  exact back2 _ _ _ (by (repeat (first | exact hs | refine hA _ _ _ (by decide) ?_))) (by simp only [go_sem, Nat.reduceLT, Nat.reduceEqDiff, Nat.reduceAdd, Nat.reduceMul, Nat.reduceSub, Nat.reduceLeDiff, Int.reduceToNat, Int.reduceNeg, Int.reduceLT, Int.reduceLE, Int.reduceEq, reduceCtorEq]) kJ3 y3 y4 y5 y6 W2 hko2
open Go Go.Proofs Go.Proofs.PI
/-! ### what may be written over -/
def SK (m M : Nat) (H : Heap) (p : Nat) (kv : AV) : Prop := kv = .nils ∨ ∃ (b n : Nat) (c : List AV) (st : St), kv = .sl b 0 n none ∧ m ≤ b ∧ b < M ∧ b ≠ p ∧ H[b]? = some (⟨c, 1, st⟩ : Blk) ∧ st.own = true ∧ n ≤ c.length ∧ n ≤ 1000000 ∧ ∀ i, i < n → ∃ s, c[i]? = some (.str s)
def TC (m M : Nat) (H : Heap) (p : Nat) (c : List AV) (k : Nat) : Prop := ∃ (t : Tkt) (kv : AV), (∀ j, j < 12 → c[k * 12 + j]? = (t.csK kv)[j]?) ∧ SK m M H p kv
def SB (m M : Nat) (H : Heap) (p : Nat) (x : AV) (n : Nat) : Prop := ((x = .nils ∨ x = .emp) ∧ n = 0) ∨ ∃ (b z : Nat) (cap : Option Nat) (c : List AV) (st : St), x = .sl b (z * 12) n cap ∧ m ≤ b ∧ b < M ∧ b ≠ p ∧ H[b]? = some (⟨c, 12, st⟩ : Blk) ∧ st.own = true ∧ (z + n) * 12 ≤ c.length ∧ n ≤ 1000000 ∧ ∀ k, k < n → TC m M H p c (z + k)
structure Sp (m M : Nat) (H : Heap) (p : Nat) (qs : List AV) : Prop where
  ge : m ≤ p
  lt : p < M
  blk : ∃ st rest, H[p]? = some (⟨qs ++ rest, 1, st⟩ : Blk) ∧ st.own = true
  el : ∀ (i : Nat) x, qs[i]? = some x → ∃ n, SB m M H p x n
section
variable {m M p : Nat} {H : Heap} {qs : List AV} {T' : TypeId → Option TD}
theorem SK.one {kv : AV} (h : SK m M H p kv) : kv.one = true := by rcases h with rfl | ⟨b, n, c, st, rfl, _⟩ <;> rfl
theorem SB.one {x : AV} {n : Nat} (h : SB m M H p x n) : x.one = true := by rcases h with ⟨rfl | rfl, _⟩ | ⟨b, z, cap, c, st, rfl, _⟩ <;> rfl
theorem SB.alen {x : AV} {n : Nat} (h : SB m M H p x n) {t e : TypeId} (hk : tk T' t = .slice e) : PI.alen T' t x = some (.int .i64 n) ∧ n ≤ 1000000 := by
  rcases h with ⟨rfl | rfl, rfl⟩ | ⟨b, z, cap, c, st, rfl, _, _, _, _, _, _, hn, _⟩
  · exact ⟨by simp only [PI.alen, hk]; rfl, by omega⟩
  · exact ⟨by simp only [PI.alen, hk]; rfl, by omega⟩
  · exact ⟨by simp only [PI.alen, hk], hn⟩
theorem SK.set {kv : AV} (h : SK m M H p kv) {kb j : Nat} {s : List UInt8} {c : List AV} {st : St} (hkb : H[kb]? = some (⟨c, 1, st⟩ : Blk)) : SK m M (List.set H kb ⟨c.set j (.str s), 1, st⟩) p kv := by
  rcases h with rfl | ⟨b, n, c2, st2, rfl, h1, h2, h3, h4, h5, h6, h7, h8⟩
  · exact .inl rfl
  · right
    by_cases e : kb = b
    · subst e
      rw [hkb] at h4
      cases h4
      refine ⟨kb, n, _, _, rfl, h1, h2, h3, List.getElem?_set_self (List.getElem?_eq_some_iff.1 hkb).1, h5, by rw [List.length_set]; exact h6, h7, fun i hi => ?_⟩
      by_cases e2 : j = i
      · subst e2; exact ⟨s, List.getElem?_set_self (by omega)⟩
      · rw [List.getElem?_set_ne e2]; exact h8 i hi
    · exact ⟨b, n, c2, st2, rfl, h1, h2, h3, by rw [List.getElem?_set_ne e]; exact h4, h5, h6, h7, h8⟩
theorem SK.other {kv : AV} (h : SK m M H p kv) {b : Nat} {c c' : List AV} {st : St} (hb : H[b]? = some (⟨c, 12, st⟩ : Blk)) : SK m M (List.set H b ⟨c', 12, st⟩) p kv := by
  rcases h with rfl | ⟨b2, n, c2, st2, rfl, h1, h2, h3, h4, h5⟩
  · exact .inl rfl
  · exact .inr ⟨b2, n, c2, st2, rfl, h1, h2, h3, by rw [List.getElem?_set_ne (fun e => by rw [e, h4] at hb; cases hb)]; exact h4, h5⟩
/-- A key is written over. -/
theorem Sp.key (o : Sp m M H p qs) {kb j : Nat} {s : List UInt8} {c : List AV} {st : St} (hkb : H[kb]? = some (⟨c, 1, st⟩ : Blk)) (hp : kb ≠ p) : Sp m M (List.set H kb ⟨c.set j (.str s), 1, st⟩) p qs := by
  refine ⟨o.ge, o.lt, ?_, fun i x hx => ?_⟩
  · obtain ⟨st2, rest, h1, h2⟩ := o.blk
    exact ⟨st2, rest, by rw [List.getElem?_set_ne hp]; exact h1, h2⟩
  · obtain ⟨n, hn⟩ := o.el i x hx
    refine ⟨n, ?_⟩
    rcases hn with hn | ⟨b, z, cap, c2, st2, rfl, h1, h2, h3, h4, h5, h6, h7, h8⟩
    · exact .inl hn
    · refine .inr ⟨b, z, cap, c2, st2, rfl, h1, h2, h3, by rw [List.getElem?_set_ne (fun e => by rw [← e, hkb] at h4; cases h4)]; exact h4, h5, h6, h7, fun k hk => ?_⟩
      obtain ⟨t, kv, a1, a2⟩ := h8 k hk
      exact ⟨t, kv, a1, a2.set hkb⟩
/-- A ticket is written over. -/
theorem Sp.tick (o : Sp m M H p qs) {b z : Nat} {t0 : Tkt} {c : List AV} {st : St} (hb : H[b]? = some (⟨c, 12, st⟩ : Blk)) (hz : (z + 1) * 12 ≤ c.length) : Sp m M (List.set H b ⟨wr c (z * 12) (t0.csK .nils), 12, st⟩) p qs := by
  have hg : ∀ i, (wr c (z * 12) (t0.csK .nils))[i]? = if z * 12 ≤ i ∧ i < z * 12 + 12 then (t0.csK .nils)[i - z * 12]? else c[i]? := fun i => wr_getElem? c (t0.csK .nils) (z * 12) (by show z * 12 + 12 ≤ _; omega) i
  refine ⟨o.ge, o.lt, ?_, fun i x hx => ?_⟩
  · obtain ⟨st2, rest, h1, h2⟩ := o.blk
    exact ⟨st2, rest, by rw [List.getElem?_set_ne (fun e => by rw [← e, hb] at h1; cases h1)]; exact h1, h2⟩
  · obtain ⟨n, hn⟩ := o.el i x hx
    refine ⟨n, ?_⟩
    rcases hn with hn | ⟨b2, z2, cap, c2, st2, rfl, h1, h2, h3, h4, h5, h6, h7, h8⟩
    · exact .inl hn
    · by_cases e : b = b2
      · subst e
        rw [hb] at h4
        cases h4
        refine .inr ⟨b, z2, cap, _, _, rfl, h1, h2, h3, List.getElem?_set_self (List.getElem?_eq_some_iff.1 hb).1, h5, by rw [wr_length]; exact h6, h7, fun k hk => ?_⟩
        by_cases e2 : z = z2 + k
        · refine ⟨t0, .nils, fun j hj => ?_, .inl rfl⟩
          rw [hg, if_pos ⟨by omega, by omega⟩]
          congr 1; omega
        · obtain ⟨t, kv, a1, a2⟩ := h8 k hk
          refine ⟨t, kv, fun j hj => ?_, a2.other hb⟩
          rw [hg, if_neg (by omega)]
          exact a1 j hj
      · refine .inr ⟨b2, z2, cap, c2, st2, rfl, h1, h2, h3, by rw [List.getElem?_set_ne e]; exact h4, h5, h6, h7, fun k hk => ?_⟩
        obtain ⟨t, kv, a1, a2⟩ := h8 k hk
        exact ⟨t, kv, a1, a2.other hb⟩
theorem Sp.read (o : Sp m M H p qs) {i : Nat} {x : AV} (hx : qs[i]? = some x) : H.read p i 1 = some [x] := by
  obtain ⟨st, rest, h, h2⟩ := o.blk
  exact read_ps h h2 hx
/-- Where a ticket lies, and its keys. -/
theorem SB.at_ {x : AV} {n : Nat} (h : SB m M H p x n) {k : Nat} (hk : k < n) {t e : TypeId} (he : asliceElem T' t = some (e, 12)) :
    ∃ b o kv, aindexAddr T' t x (.int .i64 (k : Int)) = some (.ptr b o) ∧ H.read b (o + 4) 1 = some [kv] ∧ SK m M H p kv ∧ m ≤ b ∧ b < M ∧
      ∃ (z : Nat) (c : List AV) (st : St), o = z * 12 ∧ H[b]? = some (⟨c, 12, st⟩ : Blk) ∧ st.own = true ∧ (z + 1) * 12 ≤ c.length := by
  rcases h with ⟨_, rfl⟩ | ⟨b, z, cap, c, st, rfl, h1, h2, h3, h4, h5, h6, h7, h8⟩
  · omega
  · obtain ⟨t2, kv, a1, a2⟩ := h8 k hk
    have hle : (z + k + 1) * 12 ≤ (z + n) * 12 := Nat.mul_le_mul_right _ (by omega)
    refine ⟨b, (z + k) * 12, kv, ?_, ?_, a2, h1, h2, z + k, c, st, rfl, h4, h5, by omega⟩
    · simp only [aindexAddr, he]
      rw [if_pos ⟨by omega, by omega⟩, Int.toNat_natCast]
      congr 2; omega
    · have h9 := a1 4 (by decide)
      have h10 : c[(z + k) * 12 + 4]? = some kv := h9
      obtain ⟨hi, e2⟩ := List.getElem?_eq_some_iff.1 h10
      unfold Heap.read
      rw [h4]
      simp only [own_alive h5, true_and]
      rw [if_pos (by omega), List.drop_eq_getElem_cons hi, e2]
      rfl
theorem SK.len {kv : AV} (h : SK m M H p kv) {t e : TypeId} (hk : tk T' t = .slice e) (he : asliceElem T' t = some (e, 1)) {te : TypeId} (hte : asize T' te = some 1) :
    ∃ n : Nat, PI.alen T' t kv = some (.int .i64 n) ∧ n ≤ 1000000 ∧ ∀ j : Nat, j < n → ∃ b c st, aindexAddr T' t kv (.int .i64 (j : Int)) = some (.ptr b j) ∧ H[b]? = some (⟨c, 1, st⟩ : Blk) ∧ m ≤ b ∧ b < M ∧ b ≠ p ∧ ∀ s, astore T' H te (.ptr b j) (.str s) = some (List.set H b ⟨c.set j (.str s), 1, st⟩) := by
  rcases h with rfl | ⟨b, n, c, st, rfl, h1, h2, h3, h4, h5, h6, h7, h8⟩
  · exact ⟨0, by simp only [PI.alen, hk]; rfl, by omega, fun j hj => by omega⟩
  · refine ⟨n, by simp only [PI.alen, hk], h7, fun j hj => ⟨b, c, st, ?_, h4, h1, h2, h3, fun s => ?_⟩⟩
    · simp only [aindexAddr, he]
      rw [if_pos ⟨by omega, by omega⟩, Int.toNat_natCast]
      congr 2; omega
    · simp only [astore, hte, h4, h5, AV.solid, AV.cells, List.length_cons, List.length_nil, true_and]
      rw [if_pos (by omega), wr_one _ _ _ (by omega)]
theorem SB.store {b z : Nat} {c : List AV} {st : St} (hb : H[b]? = some (⟨c, 12, st⟩ : Blk)) (ho : st.own = true) (hz : (z + 1) * 12 ≤ c.length) {te : TypeId} (hte : asize T' te = some 12) (t0 : Tkt) :
    astore T' H te (.ptr b (z * 12)) (t0.avK .nils) = some (List.set H b ⟨wr c (z * 12) (t0.csK .nils), 12, st⟩) := by
  simp only [astore, hte, hb, ho, Tkt.avK, AV.solid, AV.cells, List.length_cons, List.length_nil, true_and, Nat.zero_add, Nat.reduceAdd]
  rw [if_pos ⟨rfl, by omega⟩]
  rfl
end
open Go Go.Proofs Go.Proofs.PI
def SO (m M : Nat) (H : Heap) (v : AV) : Prop := v = .nils ∨ ∃ p qs, v = .sl p 0 qs.length none ∧ qs.length ≤ 20 ∧ Sp m M H p qs
/-- What spoil does: only what lies between is written. -/
structure SI (m M q : Nat) (nx : Int) (p : Nat) (qs : List AV) (H J : Heap) : Prop where
  g : J[q]? = some (⟨[.int .i64 nx, .sl p 0 qs.length none], 0, .full⟩ : Blk)
  sp : Sp m M J p qs
  len : J.length = H.length
  out : ∀ b, b < m ∨ M ≤ b → J[b]? = H[b]?
  hq : M ≤ q
theorem SI.key {m M q : Nat} {nx : Int} {p : Nat} {qs : List AV} {H J : Heap} (o : SI m M q nx p qs H J) {kb j : Nat} {s : List UInt8} {c : List AV} {st : St} (hkb : J[kb]? = some (⟨c, 1, st⟩ : Blk)) (hp : kb ≠ p) (h1 : m ≤ kb) (h2 : kb < M) : SI m M q nx p qs H (List.set J kb ⟨c.set j (.str s), 1, st⟩) :=
  ⟨by rw [List.getElem?_set_ne (by have := o.hq; omega)]; exact o.g, o.sp.key hkb hp, by rw [List.length_set]; exact o.len, fun b hb => by rw [List.getElem?_set_ne (by omega)]; exact o.out b hb, o.hq⟩
theorem SI.tick {m M q : Nat} {nx : Int} {p : Nat} {qs : List AV} {H J : Heap} (o : SI m M q nx p qs H J) {b z : Nat} {t0 : Tkt} {c : List AV} {st : St} (hb : J[b]? = some (⟨c, 12, st⟩ : Blk)) (hz : (z + 1) * 12 ≤ c.length) (h1 : m ≤ b) (h2 : b < M) : SI m M q nx p qs H (List.set J b ⟨wr c (z * 12) (t0.csK .nils), 12, st⟩) :=
  ⟨by rw [List.getElem?_set_ne (by have := o.hq; omega)]; exact o.g, o.sp.tick hb hz, by rw [List.length_set]; exact o.len, fun b2 hb2 => by rw [List.getElem?_set_ne (by omega)]; exact o.out b2 hb2, o.hq⟩
theorem spoil_own {m M : Nat} {H : Heap} {v : AV} (so : SO m M H v) (hM : M ≤ H.length) (nx : Int) : WC Try.prog 28 [.agg [.int .i64 nx, v]] H fun r H' => r = .tup [] ∧ H.length ≤ H'.length ∧ ∀ b, b < H.length → (b < m ∨ M ≤ b) → H'[b]? = H[b]? := by
  refine WC_of_K fun K hK => ?_
  rcases so with rfl | ⟨p, qs, rfl, hN, sp⟩
  · skip
    refine WC_of_body hT Try.func28 rfl (by simp [Try.f28]) (by simp [Try.f28]) (wx_sound hT _ ?_)
    simp only [Try.f28]
    repeat' (first | simp only [go_sem, Nat.reduceLT, Nat.reduceEqDiff, Nat.reduceAdd, Nat.reduceMul, Nat.reduceSub, Nat.reduceLeDiff, Int.reduceToNat, Int.reduceNeg, Int.reduceLT, Int.reduceLE, Int.reduceEq, reduceCtorEq, Int.natCast_zero, Int.natCast_one, Int.cast_ofNat_Int, Bool.not_not, false_eq_decide, true_eq_decide, hread0, hreadk, read_cons0, read_consk, astore_h0, astore_hk, hget0, hgetk, hset0, hsetk, hlen, hcat, Nat.add_assoc, Nat.add_zero, Nat.zero_add, List.length_append, and_true, true_and, AV.flat, *, -hK] | with_reducible refine IfB_dec (fun h => ?_) (fun h => ?_) | with_reducible refine Guard_dec (fun h => ?_) (fun h => ?_) | with_reducible refine Guard_ndec (fun h => ?_) (fun h => ?_) | with_reducible refine Guard_not (fun h => ?_) (fun h => ?_) | with_reducible refine IfB_ndec (fun h => ?_) (fun h => ?_) | with_reducible refine IfB_not (fun h => ?_) (fun h => ?_) | with_reducible refine Guard_split (fun h => ?_) (fun h => ?_) | with_reducible refine IfB_split (fun h => ?_) (fun h => ?_))
    refine WX_loopS [1] (fun kn fr' J => kn = 0 ∧ fr'.get 2 = .int .i64 0 ∧ J = H ++ [(⟨[.int .i64 nx, .nils], 0, .full⟩ : Blk)]) 0 ⟨rfl, by simp only [go_sem, Nat.reduceLT, Nat.reduceEqDiff, Nat.reduceAdd, Nat.reduceMul, Nat.reduceSub, Nat.reduceLeDiff, Int.reduceToNat, Int.reduceNeg, Int.reduceLT, Int.reduceLE, Int.reduceEq, reduceCtorEq], rfl⟩ ?_
    rintro kn fr' J A R hA hs hg hR ⟨rfl, f2, rfl⟩
    have s1 := hg 1 (by decide)
    simp only [Fr.get_put, Fr.get_init, List.getD_cons_zero, List.getD_cons_succ, Nat.reduceEqDiff, if_true, if_false] at s1
    refine wx_sound hT _ ?_
    repeat' (first | simp only [go_sem, Nat.reduceLT, Nat.reduceEqDiff, Nat.reduceAdd, Nat.reduceMul, Nat.reduceSub, Nat.reduceLeDiff, Int.reduceToNat, Int.reduceNeg, Int.reduceLT, Int.reduceLE, Int.reduceEq, reduceCtorEq, Int.natCast_zero, Int.natCast_one, Int.cast_ofNat_Int, Bool.not_not, false_eq_decide, true_eq_decide, hread0, hreadk, read_cons0, read_consk, astore_h0, astore_hk, hget0, hgetk, hset0, hsetk, hlen, hcat, Nat.add_assoc, Nat.add_zero, Nat.zero_add, List.length_append, and_true, true_and, AV.flat, *, -hK] | with_reducible refine IfB_dec (fun h => ?_) (fun h => ?_) | with_reducible refine Guard_dec (fun h => ?_) (fun h => ?_) | with_reducible refine Guard_ndec (fun h => ?_) (fun h => ?_) | with_reducible refine Guard_not (fun h => ?_) (fun h => ?_) | with_reducible refine IfB_ndec (fun h => ?_) (fun h => ?_) | with_reducible refine IfB_not (fun h => ?_) (fun h => ?_) | with_reducible refine Guard_split (fun h => ?_) (fun h => ?_) | with_reducible refine IfB_split (fun h => ?_) (fun h => ?_))
    exact hK _ _ ⟨rfl, by simp, fun b hb _ => List.getElem?_append_left hb⟩
  have hone : (AV.sl p 0 qs.length none).one = true := rfl
  refine WC_of_body hT Try.func28 rfl (by simp [Try.f28]) (by simp [Try.f28]) (wx_sound hT _ ?_)
  simp only [Try.f28]
  repeat' (first | simp only [go_sem, Nat.reduceLT, Nat.reduceEqDiff, Nat.reduceAdd, Nat.reduceMul, Nat.reduceSub, Nat.reduceLeDiff, Int.reduceToNat, Int.reduceNeg, Int.reduceLT, Int.reduceLE, Int.reduceEq, reduceCtorEq, Int.natCast_zero, Int.natCast_one, Int.cast_ofNat_Int, Bool.not_not, false_eq_decide, true_eq_decide, hread0, hreadk, read_cons0, read_consk, astore_h0, astore_hk, hget0, hgetk, hset0, hsetk, hlen, hcat, Nat.add_assoc, Nat.add_zero, Nat.zero_add, List.length_append, and_true, true_and, AV.flat, *, -hK, -sp] | with_reducible refine IfB_dec (fun h => ?_) (fun h => ?_) | with_reducible refine Guard_dec (fun h => ?_) (fun h => ?_) | with_reducible refine Guard_ndec (fun h => ?_) (fun h => ?_) | with_reducible refine Guard_not (fun h => ?_) (fun h => ?_) | with_reducible refine IfB_ndec (fun h => ?_) (fun h => ?_) | with_reducible refine IfB_not (fun h => ?_) (fun h => ?_) | with_reducible refine Guard_split (fun h => ?_) (fun h => ?_) | with_reducible refine IfB_split (fun h => ?_) (fun h => ?_))
  have hge := sp.ge
  have hlt := sp.lt
  have w0 : SI m M H.length nx p qs (H ++ [(⟨[.int .i64 nx, .sl p 0 qs.length none], 0, .full⟩ : Blk)]) (H ++ [(⟨[.int .i64 nx, .sl p 0 qs.length none], 0, .full⟩ : Blk)]) := by
    refine ⟨by simp, ?_, rfl, fun _ _ => rfl, hM⟩
    have hk : ∀ b, b < M → (H ++ [(⟨[.int .i64 nx, .sl p 0 qs.length none], 0, .full⟩ : Blk)])[b]? = H[b]? := fun b hb => List.getElem?_append_left (by omega)
    obtain ⟨a1, a2, ⟨st, rest, a3, a4⟩, a5⟩ := sp
    refine ⟨a1, a2, ⟨st, rest, by rw [hk p a2]; exact a3, a4⟩, fun i x hx => ?_⟩
    obtain ⟨n, hn⟩ := a5 i x hx
    refine ⟨n, ?_⟩
    rcases hn with hn | ⟨b, z, cap, c2, st2, rfl, h1, h2, h3, h4, h5, h6, h7, h8⟩
    · exact .inl hn
    · refine .inr ⟨b, z, cap, c2, st2, rfl, h1, h2, h3, by rw [hk b h2]; exact h4, h5, h6, h7, fun k hkk => ?_⟩
      obtain ⟨t, kv, b1, b2⟩ := h8 k hkk
      refine ⟨t, kv, b1, ?_⟩
      rcases b2 with rfl | ⟨b3, n3, c3, st3, rfl, d1, d2, d3, d4, d5⟩
      · exact .inl rfl
      · exact .inr ⟨b3, n3, c3, st3, rfl, d1, d2, d3, by rw [hk b3 d2]; exact d4, d5⟩
  generalize hG : (H ++ [(⟨[.int .i64 nx, .sl p 0 qs.length none], 0, .full⟩ : Blk)] : Heap) = G at *
  replace hK : ∀ J, SI m M H.length nx p qs G J → K (.tup []) J := fun J s => hK _ _ ⟨rfl, by rw [s.len, ← hG]; simp, fun b hb h => by rw [s.out b h, ← hG]; exact List.getElem?_append_left hb⟩
  clear sp hG
  generalize H.length = q at *
  refine WX_loopS [1] (fun kn fr' J => ∃ i : Nat, kn = qs.length - i ∧ i ≤ qs.length ∧ fr'.get 2 = .int .i64 i ∧ SI m M q nx p qs G J) qs.length ⟨0, rfl, by omega, by simp only [go_sem, Nat.reduceLT, Nat.reduceEqDiff, Nat.reduceAdd, Nat.reduceMul, Nat.reduceSub, Nat.reduceLeDiff, Int.reduceToNat, Int.reduceNeg, Int.reduceLT, Int.reduceLE, Int.reduceEq, reduceCtorEq]; rfl, w0⟩ ?_
  clear w0
  rintro kn fr' J A R hA hs hg hR ⟨i, rfl, hi, f2, W⟩
  have s1 := hg 1 (by decide)
  simp only [Fr.get_put, Fr.get_init, List.getD_cons_zero, List.getD_cons_succ, Nat.reduceEqDiff, if_true, if_false] at s1
  refine wx_sound hT _ ?_
  have g1 := W.g
  by_cases hli : i < qs.length
  rotate_left
  · have i5 : ¬ (i : Int) < qs.length := by omega
    repeat' (first | simp only [go_sem, Nat.reduceLT, Nat.reduceEqDiff, Nat.reduceAdd, Nat.reduceMul, Nat.reduceSub, Nat.reduceLeDiff, Int.reduceToNat, Int.reduceNeg, Int.reduceLT, Int.reduceLE, Int.reduceEq, reduceCtorEq, Int.natCast_zero, Int.natCast_one, Int.cast_ofNat_Int, Bool.not_not, false_eq_decide, true_eq_decide, hread0, hreadk, read_cons0, read_consk, astore_h0, astore_hk, hget0, hgetk, hset0, hsetk, hlen, hcat, Nat.add_assoc, Nat.add_zero, Nat.zero_add, List.length_append, and_true, true_and, AV.flat, g1, get_app g1, read_get g1, read_app g1, *, -hK, -W, -hli] | with_reducible refine IfB_dec (fun h => ?_) (fun h => ?_) | with_reducible refine Guard_dec (fun h => ?_) (fun h => ?_) | with_reducible refine Guard_ndec (fun h => ?_) (fun h => ?_) | with_reducible refine Guard_not (fun h => ?_) (fun h => ?_) | with_reducible refine IfB_ndec (fun h => ?_) (fun h => ?_) | with_reducible refine IfB_not (fun h => ?_) (fun h => ?_) | with_reducible refine Guard_split (fun h => ?_) (fun h => ?_) | with_reducible refine IfB_split (fun h => ?_) (fun h => ?_))

    exact hK _ W
  have i5 : (i : Int) < qs.length := by omega
  have e3 := inc_id hli (by omega)
  have ad := BxO.addr (p := p) (T' := T) se22 hli
  have hx := List.getElem?_eq_getElem hli
  have back : ∀ fr2 J2, A fr2 → fr2.get 2 = .int .i64 ((i + 1 : Nat) : Int) → SI m M q nx p qs G J2 → R fr2 J2 := fun fr2 J2 ha q1 q2 => hR fr2 J2 ha (qs.length - (i + 1)) (by omega) ⟨i + 1, rfl, by omega, q1, q2⟩
  clear hR
  obtain ⟨n, sb⟩ := W.sp.el i _ hx
  generalize qs[i] = x at *
  have hx1 := sb.one
  obtain ⟨al, hn⟩ := sb.alen (T' := T) tk31
  have hsb : ∀ J, SI m M q nx p qs G J → SB m M J p x n := fun J s => by
    obtain ⟨n3, h3⟩ := s.sp.el i _ hx
    have h4 := (h3.alen (T' := T) tk31).1
    rw [al] at h4
    have h5 : n = n3 := by simp at h4; omega
    rw [h5]; exact h3
  clear sb
  repeat' (first | simp only [go_sem, Nat.reduceLT, Nat.reduceEqDiff, Nat.reduceAdd, Nat.reduceMul, Nat.reduceSub, Nat.reduceLeDiff, Int.reduceToNat, Int.reduceNeg, Int.reduceLT, Int.reduceLE, Int.reduceEq, reduceCtorEq, Int.natCast_zero, Int.natCast_one, Int.cast_ofNat_Int, Bool.not_not, false_eq_decide, true_eq_decide, hread0, hreadk, read_cons0, read_consk, astore_h0, astore_hk, hget0, hgetk, hset0, hsetk, hlen, hcat, Nat.add_assoc, Nat.add_zero, Nat.zero_add, List.length_append, and_true, true_and, AV.flat, g1, get_app g1, read_get g1, read_app g1, hx1, one_solid hx1, one_cells hx1, *, -hK, -W, -hli, -back, -hx, -hsb, -hn] | with_reducible refine IfB_dec (fun h => ?_) (fun h => ?_) | with_reducible refine Guard_dec (fun h => ?_) (fun h => ?_) | with_reducible refine Guard_ndec (fun h => ?_) (fun h => ?_) | with_reducible refine Guard_not (fun h => ?_) (fun h => ?_) | with_reducible refine IfB_ndec (fun h => ?_) (fun h => ?_) | with_reducible refine IfB_not (fun h => ?_) (fun h => ?_) | with_reducible refine Guard_split (fun h => ?_) (fun h => ?_) | with_reducible refine IfB_split (fun h => ?_) (fun h => ?_))
  have hA0 := hA
  have o1 := s1
  refine WX_loopS [1, 2] (fun kn fr2 J2 => ∃ k : Nat, kn = n - k ∧ k ≤ n ∧ fr2.get 3 = .int .i64 k ∧ SI m M q nx p qs G J2 ∧ A fr2) n ⟨0, rfl, by omega, by simp only [go_sem, Nat.reduceLT, Nat.reduceEqDiff, Nat.reduceAdd, Nat.reduceMul, Nat.reduceSub, Nat.reduceLeDiff, Int.reduceToNat, Int.reduceNeg, Int.reduceLT, Int.reduceLE, Int.reduceEq, reduceCtorEq]; rfl, W, by (repeat (first | exact hs | refine hA _ _ _ (by decide) ?_))⟩ ?_
  clear hg hs hA s1 g1 W
  rintro kn fr2 J2 A2 R2 hA hs hg hR2 ⟨k, rfl, hk, f3, W, hAf⟩
  have s1 := hg 1 (by decide)
  have s2 := hg 2 (by decide)
  simp only [Fr.get_put, Fr.get_init, List.getD_cons_zero, List.getD_cons_succ, Nat.reduceEqDiff, if_true, if_false] at s1 s2
  rw [o1] at s1
  rw [f2] at s2
  clear o1 f2
  refine wx_sound hT _ ?_
  have g1 := W.g
  have rd := W.sp.read hx
  by_cases hlk : k < n
  rotate_left
  · have i6 : ¬ (k : Int) < n := by omega
    repeat' (first | simp only [go_sem, Nat.reduceLT, Nat.reduceEqDiff, Nat.reduceAdd, Nat.reduceMul, Nat.reduceSub, Nat.reduceLeDiff, Int.reduceToNat, Int.reduceNeg, Int.reduceLT, Int.reduceLE, Int.reduceEq, reduceCtorEq, Int.natCast_zero, Int.natCast_one, Int.cast_ofNat_Int, Bool.not_not, false_eq_decide, true_eq_decide, hread0, hreadk, read_cons0, read_consk, astore_h0, astore_hk, hget0, hgetk, hset0, hsetk, hlen, hcat, Nat.add_assoc, Nat.add_zero, Nat.zero_add, List.length_append, and_true, true_and, AV.flat, g1, get_app g1, read_get g1, read_app g1, hx1, one_solid hx1, one_cells hx1, *, -hK, -W, -hli, -back, -hx, -hlk, -hsb, -hn] | with_reducible refine IfB_dec (fun h => ?_) (fun h => ?_) | with_reducible refine Guard_dec (fun h => ?_) (fun h => ?_) | with_reducible refine Guard_ndec (fun h => ?_) (fun h => ?_) | with_reducible refine Guard_not (fun h => ?_) (fun h => ?_) | with_reducible refine IfB_ndec (fun h => ?_) (fun h => ?_) | with_reducible refine IfB_not (fun h => ?_) (fun h => ?_) | with_reducible refine Guard_split (fun h => ?_) (fun h => ?_) | with_reducible refine IfB_split (fun h => ?_) (fun h => ?_))
    exact back _ _ (by repeat (first | exact hAf | refine hA0 _ _ _ (by decide) ?_)) (by simp only [go_sem, Nat.reduceLT, Nat.reduceEqDiff, Nat.reduceAdd, Nat.reduceMul, Nat.reduceSub, Nat.reduceLeDiff, Int.reduceToNat, Int.reduceNeg, Int.reduceLT, Int.reduceLE, Int.reduceEq, reduceCtorEq]) W
  have i6 : (k : Int) < n := by omega
  have e4 := inc_id hlk (by omega)
  have back2 : ∀ fr3 J3, A2 fr3 → fr3.get 3 = .int .i64 ((k + 1 : Nat) : Int) → SI m M q nx p qs G J3 → A fr3 → R2 fr3 J3 := fun fr3 J3 ha q1 q2 q3 => hR2 fr3 J3 ha (n - (k + 1)) (by omega) ⟨k + 1, rfl, by omega, q1, q2, q3⟩
  clear hR2
  obtain ⟨b, o, kv, ai, rk, sk, hb1, hb2, z, c, st, ho, hbb, hown, hzl⟩ := (hsb _ W).at_ (T' := T) hlk se31
  have hck : ∀ J : Heap, J[b]? = some (⟨c, 12, st⟩ : Blk) → J.read b (o + 4) 1 = some [kv] := fun J h => by
    unfold Heap.read at rk ⊢
    rw [h]; rw [hbb] at rk; exact rk
  have hkv1 := sk.one
  obtain ⟨nk, alk, hnk, -⟩ := sk.len (T' := T) tk32 se32 (te := 9) (by simp only [asize, td9, Option.map_some])
  have hskl : ∀ J, SK m M J p kv → ∀ j : Nat, j < nk → ∃ b c st, aindexAddr T 32 kv (.int .i64 (j : Int)) = some (.ptr b j) ∧ J[b]? = some (⟨c, 1, st⟩ : Blk) ∧ m ≤ b ∧ b < M ∧ b ≠ p ∧ ∀ s, astore T J 9 (.ptr b j) (.str s) = some (List.set J b ⟨c.set j (.str s), 1, st⟩) := fun J h => by
    obtain ⟨n3, h1, -, h2⟩ := h.len (T' := T) tk32 se32 (te := 9) (by simp only [asize, td9, Option.map_some])
    rw [alk] at h1
    have h5 : nk = n3 := by simp at h1; omega
    rw [h5]; exact h2
  repeat' (first | simp only [go_sem, Nat.reduceLT, Nat.reduceEqDiff, Nat.reduceAdd, Nat.reduceMul, Nat.reduceSub, Nat.reduceLeDiff, Int.reduceToNat, Int.reduceNeg, Int.reduceLT, Int.reduceLE, Int.reduceEq, reduceCtorEq, Int.natCast_zero, Int.natCast_one, Int.cast_ofNat_Int, Bool.not_not, false_eq_decide, true_eq_decide, hread0, hreadk, read_cons0, read_consk, astore_h0, astore_hk, hget0, hgetk, hset0, hsetk, hlen, hcat, Nat.add_assoc, Nat.add_zero, Nat.zero_add, List.length_append, and_true, true_and, AV.flat, g1, get_app g1, read_get g1, read_app g1, hx1, one_solid hx1, one_cells hx1, hkv1, one_solid hkv1, one_cells hkv1, *, -hK, -W, -hli, -back, -back2, -hx, -hlk, -hsb, -hn, -rk, -sk, -hb1, -hb2, -ho, -hbb, -hown, -hzl, -hck, -hskl, -hnk] | with_reducible refine IfB_dec (fun h => ?_) (fun h => ?_) | with_reducible refine Guard_dec (fun h => ?_) (fun h => ?_) | with_reducible refine Guard_ndec (fun h => ?_) (fun h => ?_) | with_reducible refine Guard_not (fun h => ?_) (fun h => ?_) | with_reducible refine IfB_ndec (fun h => ?_) (fun h => ?_) | with_reducible refine IfB_not (fun h => ?_) (fun h => ?_) | with_reducible refine Guard_split (fun h => ?_) (fun h => ?_) | with_reducible refine IfB_split (fun h => ?_) (fun h => ?_))
  have hA1 := hA
  have o1 := s1
  have o2 := s2
  refine WX_loopS [1, 2, 3] (fun kn fr3 J3 => ∃ j : Nat, kn = nk - j ∧ j ≤ nk ∧ fr3.get 4 = .int .i64 j ∧ SI m M q nx p qs G J3 ∧ J3[b]? = some (⟨c, 12, st⟩ : Blk) ∧ SK m M J3 p kv ∧ A fr3 ∧ A2 fr3) nk ⟨0, rfl, by omega, by simp only [go_sem, Nat.reduceLT, Nat.reduceEqDiff, Nat.reduceAdd, Nat.reduceMul, Nat.reduceSub, Nat.reduceLeDiff, Int.reduceToNat, Int.reduceNeg, Int.reduceLT, Int.reduceLE, Int.reduceEq, reduceCtorEq]; rfl, W, hbb, sk, by (repeat (first | exact hAf | refine hA0 _ _ _ (by decide) ?_)), by (repeat (first | exact hs | refine hA _ _ _ (by decide) ?_))⟩ ?_
  clear hg hs hA s1 s2 g1 W rd rk hbb sk hAf
  rintro kn fr3 J3 A3 R3 hA hs hg hR3 ⟨j, rfl, hj, f4, W, hbb, sk, hAf, hAg⟩
  have s1 := hg 1 (by decide)
  have s2 := hg 2 (by decide)
  have s3 := hg 3 (by decide)
  simp only [Fr.get_put, Fr.get_init, List.getD_cons_zero, List.getD_cons_succ, Nat.reduceEqDiff, if_true, if_false] at s1 s2 s3
  rw [o1] at s1
  rw [o2] at s2
  rw [f3] at s3
  clear o1 o2 f3
  refine wx_sound hT _ ?_
  have g1 := W.g
  have rd := W.sp.read hx
  have rk := hck _ hbb
  by_cases hlj : j < nk
  rotate_left
  · have i7 : ¬ (j : Int) < nk := by omega
    subst ho
    have w1 := SB.store (T' := T) hbb hown hzl (te := 38) (by simp only [asize, td38, Option.map_some]) ⟨-77, 0, cmd0, 0, 0⟩
    have W4 := W.tick (t0 := ⟨-77, 0, cmd0, 0, 0⟩) hbb hzl hb1 hb2
    unfold Tkt.avK cmd0 at w1
    simp only at w1
    generalize hG4 : (List.set J3 b ⟨wr c (z * 12) (Tkt.csK ⟨-77, 0, ⟨0, 0, [], [], 0, 0, 0, 0⟩, 0, 0⟩ .nils), 12, st⟩ : Heap) = G4 at *
    have W5 : SI m M q nx p qs G G4 := by rw [← hG4]; exact W4
    clear hG4 W4
    repeat' (first | simp only [go_sem, Nat.reduceLT, Nat.reduceEqDiff, Nat.reduceAdd, Nat.reduceMul, Nat.reduceSub, Nat.reduceLeDiff, Int.reduceToNat, Int.reduceNeg, Int.reduceLT, Int.reduceLE, Int.reduceEq, reduceCtorEq, Int.natCast_zero, Int.natCast_one, Int.cast_ofNat_Int, Bool.not_not, false_eq_decide, true_eq_decide, hread0, hreadk, read_cons0, read_consk, astore_h0, astore_hk, hget0, hgetk, hset0, hsetk, hlen, hcat, Nat.add_assoc, Nat.add_zero, Nat.zero_add, List.length_append, and_true, true_and, AV.flat, g1, get_app g1, read_get g1, read_app g1, hx1, one_solid hx1, one_cells hx1, hkv1, one_solid hkv1, one_cells hkv1, *, -hK, -W, -hli, -back, -back2, -hx, -hlk, -hsb, -hn, -sk, -hb1, -hb2, -hbb, -hown, -hzl, -hck, -hskl, -hnk, -hlj, -W5] | with_reducible refine IfB_dec (fun h => ?_) (fun h => ?_) | with_reducible refine Guard_dec (fun h => ?_) (fun h => ?_) | with_reducible refine Guard_ndec (fun h => ?_) (fun h => ?_) | with_reducible refine Guard_not (fun h => ?_) (fun h => ?_) | with_reducible refine IfB_ndec (fun h => ?_) (fun h => ?_) | with_reducible refine IfB_not (fun h => ?_) (fun h => ?_) | with_reducible refine Guard_split (fun h => ?_) (fun h => ?_) | with_reducible refine IfB_split (fun h => ?_) (fun h => ?_))
    exact back2 _ _ (by repeat (first | exact hAg | refine hA1 _ _ _ (by decide) ?_)) (by simp only [go_sem, Nat.reduceLT, Nat.reduceEqDiff, Nat.reduceAdd, Nat.reduceMul, Nat.reduceSub, Nat.reduceLeDiff, Int.reduceToNat, Int.reduceNeg, Int.reduceLT, Int.reduceLE, Int.reduceEq, reduceCtorEq]) W5 (by repeat (first | exact hAf | refine hA0 _ _ _ (by decide) ?_))
  have i7 : (j : Int) < nk := by omega
  have e5 := inc_id hlj (by omega)
  obtain ⟨kb, ck, stk, ai2, hkb, hk1, hk2, hk3, w1⟩ := hskl _ sk j hlj
  have w2 := w1 [119, 114, 105, 116, 116, 101, 110, 32, 111, 118, 101, 114]
  have W4 := W.key (j := j) (s := [119, 114, 105, 116, 116, 101, 110, 32, 111, 118, 101, 114]) hkb hk3 hk1 hk2
  have sk4 := sk.set (j := j) (s := [119, 114, 105, 116, 116, 101, 110, 32, 111, 118, 101, 114]) hkb
  have hbb4 : (List.set J3 kb ⟨ck.set j (.str [119, 114, 105, 116, 116, 101, 110, 32, 111, 118, 101, 114]), 1, stk⟩)[b]? = some (⟨c, 12, st⟩ : Blk) := by rw [List.getElem?_set_ne (fun e => by rw [e, hbb] at hkb; cases hkb)]; exact hbb
  have back3 : ∀ fr4 J4, A3 fr4 → fr4.get 4 = .int .i64 ((j + 1 : Nat) : Int) → SI m M q nx p qs G J4 → J4[b]? = some (⟨c, 12, st⟩ : Blk) → SK m M J4 p kv → A fr4 → A2 fr4 → R3 fr4 J4 := fun fr4 J4 ha q1 q2 q3 q4 q5 q6 => hR3 fr4 J4 ha (nk - (j + 1)) (by omega) ⟨j + 1, rfl, by omega, q1, q2, q3, q4, q5, q6⟩
  clear hR3 w1 hskl hck
  generalize (List.set J3 kb ⟨ck.set j (.str [119, 114, 105, 116, 116, 101, 110, 32, 111, 118, 101, 114]), 1, stk⟩ : Heap) = G4 at *
  repeat' (first | simp only [go_sem, Nat.reduceLT, Nat.reduceEqDiff, Nat.reduceAdd, Nat.reduceMul, Nat.reduceSub, Nat.reduceLeDiff, Int.reduceToNat, Int.reduceNeg, Int.reduceLT, Int.reduceLE, Int.reduceEq, reduceCtorEq, Int.natCast_zero, Int.natCast_one, Int.cast_ofNat_Int, Bool.not_not, false_eq_decide, true_eq_decide, hread0, hreadk, read_cons0, read_consk, astore_h0, astore_hk, hget0, hgetk, hset0, hsetk, hlen, hcat, Nat.add_assoc, Nat.add_zero, Nat.zero_add, List.length_append, and_true, true_and, AV.flat, g1, get_app g1, read_get g1, read_app g1, hx1, one_solid hx1, one_cells hx1, hkv1, one_solid hkv1, one_cells hkv1, *, -hK, -W, -hli, -back, -back2, -back3, -hx, -hlk, -hsb, -hn, -sk, -hb1, -hb2, -ho, -hbb, -hown, -hzl, -hnk, -hlj, -hkb, -hk1, -hk2, -hk3, -W4, -sk4, -hbb4] | with_reducible refine IfB_dec (fun h => ?_) (fun h => ?_) | with_reducible refine Guard_dec (fun h => ?_) (fun h => ?_) | with_reducible refine Guard_ndec (fun h => ?_) (fun h => ?_) | with_reducible refine Guard_not (fun h => ?_) (fun h => ?_) | with_reducible refine IfB_ndec (fun h => ?_) (fun h => ?_) | with_reducible refine IfB_not (fun h => ?_) (fun h => ?_) | with_reducible refine Guard_split (fun h => ?_) (fun h => ?_) | with_reducible refine IfB_split (fun h => ?_) (fun h => ?_))
  exact back3 _ _ (by (repeat (first | exact hs | refine hA _ _ _ (by decide) ?_))) (by simp only [go_sem, Nat.reduceLT, Nat.reduceEqDiff, Nat.reduceAdd, Nat.reduceMul, Nat.reduceSub, Nat.reduceLeDiff, Int.reduceToNat, Int.reduceNeg, Int.reduceLT, Int.reduceLE, Int.reduceEq, reduceCtorEq]) W4 hbb4 sk4 (by repeat (first | exact hAf | refine hA0 _ _ _ (by decide) ?_)) (by repeat (first | exact hAg | refine hA1 _ _ _ (by decide) ?_))
end Go.Proofs.Ytkmkhiipiflelaa

