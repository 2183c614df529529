import Derived.Test.YtccfhighlpfdmaaTrkQ2
set_option linter.unusedSimpArgs false
set_option linter.unusedVariables false
set_option maxRecDepth 100000
set_option maxHeartbeats 4000000
namespace Go.Proofs.Ytccfhighlpfdmaa
open Go Go.Proofs Go.Proofs.PI
/-! ### bounds -/
def bnd (l : List Tk) : Prop := l.length ≤ 1000 ∧ ∀ t ∈ l, t.ns.length ≤ 2000
theorem bnd_nil : bnd [] := ⟨by simp, by simp⟩
theorem bnd_set {l : List Tk} (h : bnd l) (i : Nat) {t : Tk} (ht : t.ns.length ≤ 2000) : bnd (l.set i t) := ⟨by rw [List.length_set]; exact h.1, fun u hu => by
  rcases List.mem_or_eq_of_mem_set hu with hu | hu
  · exact h.2 u hu
  · rw [hu]; exact ht⟩
theorem bnd_at {l : List Tk} (h : bnd l) (i : Nat) : (tkAt l i).ns.length ≤ 2000 := by
  unfold tkAt
  cases hh : l[i]? with
  | none => simp
  | some t => exact h.2 t (List.mem_of_getElem? hh)
theorem bnd_new (n : Int) : bnd (trNew n).1 := by
  unfold trNew
  split
  · refine ⟨by rw [List.length_replicate]; omega, fun t ht => ?_⟩
    rw [List.eq_of_mem_replicate ht]; simp
  · exact bnd_nil
theorem bnd_on {l : List Tk} (h : bnd l) (i : Int) : bnd (if askE l i = 0 then l.set i.toNat ⟨true, (tkAt l i.toNat).ns⟩ else []) := by
  split
  · exact bnd_set h _ (bnd_at h _)
  · exact bnd_nil
theorem bnd_off {l : List Tk} (h : bnd l) (i : Int) : bnd (if askE l i = 0 then l.set i.toNat ⟨false, []⟩ else []) := by
  split
  · exact bnd_set h _ (by simp)
  · exact bnd_nil
theorem len_told {l : List Tk} (h : bnd l) (i : Int) : (if askE l i = 0 then (tkAt l i.toNat).ns else []).length ≤ 2000 := by
  split
  · exact bnd_at h _
  · simp
theorem bnd_read {l : List Tk} (h : bnd l) (i : Int) (n : Nm) : bnd (trRead l i n).1.1 ∧ (trRead l i n).1.2.length ≤ 1 := by
  by_cases ha : askE l i = 0
  · by_cases hn : n.mayB = true
    · by_cases ho : (tkAt l i.toNat).on = true
      · have e : trRead l i n = ((l.set i.toNat (readT i.toNat (tkAt l i.toNat) n).1, (readT i.toNat (tkAt l i.toNat) n).2), 0) := by unfold trRead; rw [if_pos ha, if_pos hn, if_pos ho]
        rw [e]
        have hl := readN_len (tkAt l i.toNat).ns n
        have hb := (askE_ok ha).1
        unfold readT; split
        · rename_i h16
          exact ⟨bnd_set h _ (by show (readN _ _).length ≤ _; omega), by simp⟩
        · refine ⟨bnd_set h _ (by show (List.drop 1 _).length ≤ _; rw [List.length_drop]; have := bnd_at h i.toNat; omega), by rw [List.length_map, List.length_take]; omega⟩
      · have e : trRead l i n = ((l, []), 0) := by unfold trRead; rw [if_pos ha, if_pos hn, if_neg ho]
        rw [e]; exact ⟨h, by simp⟩
    · have e : trRead l i n = (([], []), 8) := by unfold trRead; rw [if_pos ha, if_neg hn]
      rw [e]; exact ⟨bnd_nil, by simp⟩
  · have e : trRead l i n = (([], []), askE l i) := by unfold trRead; rw [if_neg ha]
    rw [e]; exact ⟨bnd_nil, by simp⟩
theorem bnd_chg {l : List Tk} (cs : List Chg) : bnd (trChg l cs).1.1 ∧ (trChg l cs).1.2.length ≤ 1000 := by
  unfold trChg
  split
  · rename_i hm
    split
    · have h1 := runS_plen hm cs
      have h2 := runS_small 16 cs (l, []) (fun t ht => (hm.2.2 t ht).1.2)
      have h3 := runS_len cs (l, [])
      exact ⟨⟨by rw [h3]; have := hm.2.1; show l.length ≤ _; omega, fun t ht => by have := h2 t ht; omega⟩, by show (runS (l, []) cs).2.length ≤ _; omega⟩
    · exact ⟨bnd_nil, by simp⟩
  · exact ⟨bnd_nil, by simp⟩
theorem same_bnd {X : List Tk} (h : bnd X) (H : Heap) : WC Try.prog 16 [trAv X, trAv X] H fun r H' => r = .bool true ∧ H' = H :=
  same_refl X (by have := h.1; omega) (fun t ht => by have := h.2 t ht; omega) H
theorem same_lent {m : Nat} {H : Heap} {v : AV} {X : List Tk} (o : TrOut m H v X) (h : bnd X) : WC Try.prog 16 [.agg [v], trAv X] H fun r H' => r = .bool true ∧ H' = H :=
  WC_lend_val (args := [.agg [v], trAv X]) (args' := [trAv X, trAv X]) ⟨Thaw.agg_row ⟨o.thaw.mono (Nat.zero_le _), trivial⟩, Thaw.agg_row ⟨.atom _ rfl, trivial⟩, trivial⟩ (.cell _ rfl) (fun J => same_bnd h J)
theorem names_lent {m : Nat} {H : Heap} {v : AV} {X : List Nm} (o : OwnE nmE m H v X) (h : X.length ≤ 2000) : WC Try.prog 14 [v, nmE.lst X] H fun r H' => r = .bool true ∧ H' = H :=
  WC_lend_val (args := [v, nmE.lst X]) (args' := [nmE.lst X, nmE.lst X]) ⟨(o.thaw (by decide)).mono (Nat.zero_le _), .atom _ rfl, trivial⟩ (.cell _ rfl) (fun J => sameNames_refl X (by omega) J)
theorem pushes_lent {m : Nat} {H : Heap} {v : AV} {X : List Pu} (o : OwnE puE m H v X) (h : X.length ≤ 1000) : WC Try.prog 24 [v, puE.lst X] H fun r H' => r = .bool true ∧ H' = H :=
  WC_lend_val (args := [v, puE.lst X]) (args' := [puE.lst X, puE.lst X]) ⟨(o.thaw (by decide)).mono (Nat.zero_le _), .atom _ rfl, trivial⟩ (.cell _ rfl) (fun J => samePushes_refl X (by omega) J)
/-- A name of one of them is written. -/
theorem TkO.inner {m p k : Nat} {J G : Heap} {ps : List (AV × AV)} {l : List Tk} (o : TkO m J p k ps l) {i : Nat} {x : AV × AV} {t : Tk} (hx : ps[i]? = some x) (ht : l[i]? = some t) (hi : i < k) (kk : Keep x.2.blk J G) {ns : List Nm} (o2 : OwnE nmE m G x.2 ns) : TkO m G p k ps (l.set i ⟨t.on, ns⟩) := by
  have hlt : i < l.length := (List.getElem?_eq_some_iff.1 ht).1
  obtain ⟨e1, -, -, e4⟩ := o.el i x t hx ht
  refine ⟨by rw [List.length_set]; exact o.len, o.ge, ?_, fun j z u hz hu => ?_, o.dis⟩
  · obtain ⟨st, rest, h1, h2⟩ := o.blk
    exact ⟨st, rest, kk.get h1 e4, h2⟩
  · by_cases e : i = j
    · subst e
      rw [hx] at hz
      rw [List.getElem?_set_self hlt] at hu
      cases hz; cases hu
      exact ⟨e1, fun h => by omega, fun _ => o2, e4⟩
    · rw [List.getElem?_set_ne e] at hu
      obtain ⟨g1, g2, g3, g4⟩ := o.el j z u hz hu
      exact ⟨g1, g2, fun h => (g3 h).keep kk (fun b hb e2 => o.dis i j x z b e hx hz hb e2), g4⟩
end Go.Proofs.Ytccfhighlpfdmaa

