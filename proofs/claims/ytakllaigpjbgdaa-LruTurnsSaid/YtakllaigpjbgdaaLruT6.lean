import Derived.Test.YtakllaigpjbgdaaLruT5
set_option linter.unusedSimpArgs false
set_option linter.unusedVariables false
set_option maxRecDepth 100000
set_option maxHeartbeats 4000000
namespace Go.Proofs.Ytakllaigpjbgdaa
open Go Go.Proofs Go.Proofs.PI
theorem same_lent {m m' : Nat} {H : Heap} {vt vk : AV} {o : Ord} (h1 : OwnE Enc.str m H vt o.t) (h2 : OwnE Enc.str m' H vk o.k) (hf : o.fit) : WC Try.prog 28 [.agg [vt, vk], o.av] H fun r H' => r = .bool true ∧ H' = H :=
  WC_lend_val (args := [.agg [vt, vk], o.av]) (args' := [o.av, o.av]) ⟨Thaw.agg_row (l' := [_, _]) ⟨OwnE.thaw (E := Enc.str) (Own.mono h1 (Nat.zero_le _)) (by decide), OwnE.thaw (E := Enc.str) (Own.mono h2 (Nat.zero_le _)) (by decide), trivial⟩, Thaw.agg_row (l' := [_, _]) ⟨.atom _ rfl, .atom _ rfl, trivial⟩, trivial⟩ (.cell _ rfl)
    (fun J => by have h := rSame_spec o o hf J; simpa using h)
theorem addO_fit {o : Ord} (h1 : o.t.length ≤ 300) (h2 : o.k.length ≤ 300) (s : List UInt8) : (addO o s).fit := by
  unfold addO
  split
  · exact ⟨by show o.t.length + 1 ≤ _; omega, by show o.k.length ≤ _; omega⟩
  · exact ⟨by decide, by decide⟩
theorem levelO_fit {o : Ord} (h : tot o ≤ 900) : (levelO o).fit := by
  have h1 := levelO_tot o
  unfold tot at *
  exact ⟨by omega, by omega⟩
theorem hitO_fit {o : Ord} (h1 : o.t.length ≤ 300) (h2 : o.k.length ≤ 300) (s : List UInt8) : (hitO o s).fit := by
  have h3 := takeO_len o s
  unfold hitO
  split
  · exact levelO_fit (by unfold tot; simp only [List.length_cons]; omega)
  · exact ⟨by decide, by decide⟩
theorem delO_fit {o : Ord} (h1 : o.t.length ≤ 300) (h2 : o.k.length ≤ 300) (s : List UInt8) : (delO o s).fit := by
  have h3 := takeO_len o s
  unfold delO
  split
  · exact levelO_fit (by unfold tot; omega)
  · exact ⟨by decide, by decide⟩
/-- The three answers and the order they are answers of, in memory. -/
structure Tn (q : Nat) (o : Ord) (b6 b10 b14 : Nat) (va ka th kh vx kx : AV) (n1 n2 n3 : Nat) (J : Heap) : Prop where
  g2 : J[q]? = some (⟨[Enc.str.lst o.t, Enc.str.lst o.k], 0, .full⟩ : Blk)
  g5 : J[q + 1]? = some (⟨[Enc.str.lst o.t, Enc.str.lst o.k], 0, .full⟩ : Blk)
  g6 : J[b6]? = some (⟨[va, ka], 0, .full⟩ : Blk)
  g10 : J[b10]? = some (⟨[th, kh], 0, .full⟩ : Blk)
  g14 : J[b14]? = some (⟨[vx, kx], 0, .full⟩ : Blk)
  oa : ∃ l, l.length = n1 ∧ OwnE Enc.str (q + 2) J va l
  oh : ∃ l, l.length = n2 ∧ OwnE Enc.str (b6 + 1) J kh l
  ox : ∃ l, l.length = n3 ∧ OwnE Enc.str (b10 + 1) J vx l
  la : ∀ b, va.blk = some b → b < b6
  lh : ∀ b, kh.blk = some b → b < b10
  lx : ∀ b, vx.blk = some b → b < b14
  o1 : q + 2 ≤ b6
  o2 : b6 < b10
  o3 : b10 < b14
section
variable {q : Nat} {o : Ord} {b6 b10 b14 : Nat} {va ka th kh vx kx : AV} {n1 n2 n3 : Nat} {J G : Heap}
theorem Tn.wa (t : Tn q o b6 b10 b14 va ka th kh vx kx n1 n2 n3 J) {l : List (List UInt8)} (hl : l.length = n1) (ho : OwnE Enc.str (q + 2) G va l) (k : Keep va.blk J G) : Tn q o b6 b10 b14 va ka th kh vx kx n1 n2 n3 G := by
  obtain ⟨g2, g5, g6, g10, g14, oa, ⟨l2, e2, oh⟩, ⟨l3, e3, ox⟩, la, lh, lx, o1, o2, o3⟩ := t
  refine ⟨k.get g2 ?_, k.get g5 ?_, k.get g6 ?_, k.get g10 ?_, k.get g14 ?_, ⟨l, hl, ho⟩, ⟨l2, e2, own_same oh fun b hb => k.at_ b (oh.lt hb) ?_⟩, ⟨l3, e3, own_same ox fun b hb => k.at_ b (ox.lt hb) ?_⟩, la, lh, lx, o1, o2, o3⟩
  · intro e; have := ho.ge e; omega
  · intro e; have := ho.ge e; omega
  · intro e; have := la _ e; omega
  · intro e; have := la _ e; omega
  · intro e; have := la _ e; omega
  · intro e; have := la _ e; have := oh.ge hb; omega
  · intro e; have := la _ e; have := ox.ge hb; omega
theorem Tn.wh (t : Tn q o b6 b10 b14 va ka th kh vx kx n1 n2 n3 J) {l : List (List UInt8)} (hl : l.length = n2) (ho : OwnE Enc.str (b6 + 1) G kh l) (k : Keep kh.blk J G) : Tn q o b6 b10 b14 va ka th kh vx kx n1 n2 n3 G := by
  obtain ⟨g2, g5, g6, g10, g14, ⟨l1, e1, oa⟩, oh, ⟨l3, e3, ox⟩, la, lh, lx, o1, o2, o3⟩ := t
  refine ⟨k.get g2 ?_, k.get g5 ?_, k.get g6 ?_, k.get g10 ?_, k.get g14 ?_, ⟨l1, e1, own_same oa fun b hb => k.at_ b (oa.lt hb) ?_⟩, ⟨l, hl, ho⟩, ⟨l3, e3, own_same ox fun b hb => k.at_ b (ox.lt hb) ?_⟩, la, lh, lx, o1, o2, o3⟩
  · intro e; have := ho.ge e; omega
  · intro e; have := ho.ge e; omega
  · intro e; have := ho.ge e; omega
  · intro e; have := lh _ e; omega
  · intro e; have := lh _ e; omega
  · intro e; have := ho.ge e; have := la _ hb; omega
  · intro e; have := lh _ e; have := ox.ge hb; omega
theorem Tn.wx (t : Tn q o b6 b10 b14 va ka th kh vx kx n1 n2 n3 J) {l : List (List UInt8)} (hl : l.length = n3) (ho : OwnE Enc.str (b10 + 1) G vx l) (k : Keep vx.blk J G) : Tn q o b6 b10 b14 va ka th kh vx kx n1 n2 n3 G := by
  obtain ⟨g2, g5, g6, g10, g14, ⟨l1, e1, oa⟩, ⟨l2, e2, oh⟩, ox, la, lh, lx, o1, o2, o3⟩ := t
  refine ⟨k.get g2 ?_, k.get g5 ?_, k.get g6 ?_, k.get g10 ?_, k.get g14 ?_, ⟨l1, e1, own_same oa fun b hb => k.at_ b (oa.lt hb) ?_⟩, ⟨l2, e2, own_same oh fun b hb => k.at_ b (oh.lt hb) ?_⟩, ⟨l, hl, ho⟩, la, lh, lx, o1, o2, o3⟩
  · intro e; have := ho.ge e; omega
  · intro e; have := ho.ge e; omega
  · intro e; have := ho.ge e; omega
  · intro e; have := ho.ge e; omega
  · intro e; have := lx _ e; omega
  · intro e; have := ho.ge e; have := la _ hb; omega
  · intro e; have := ho.ge e; have := lh _ hb; omega
end
end Go.Proofs.Ytakllaigpjbgdaa
