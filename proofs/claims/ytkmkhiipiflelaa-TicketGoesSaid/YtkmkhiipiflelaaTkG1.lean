import Derived.Test.YtkmkhiipiflelaaTgH
import Derived.Test.YtkmkhiipiflelaaTgI
set_option linter.unusedSimpArgs false
set_option linter.unusedVariables false
set_option maxRecDepth 100000
set_option maxHeartbeats 4000000
namespace Go.Proofs.Ytkmkhiipiflelaa
open Go Go.Proofs Go.Proofs.PI
theorem twin12_spec (q : Que) (hb : qFit q.bx) (H : Heap) : WC Try.prog 16 [q.av] H fun r H' => r = q.av ∧ H' = H :=
  WC_froze (Q := fun r => r = _) ((twin12_own q hb H).mono fun r H' ⟨⟨wo, ps, e, h⟩, k⟩ => ⟨_, by rw [e]; exact Thaw.agg_row (l' := [_, _]) ⟨.int _ _, h.thaw, trivial⟩, k, rfl⟩)
theorem inp_tktV {n : Nat} {a : AV} (h : InpPV T (n + 6) 38 a) : ∃ t : Tkt, a = t.av ∧ tFit t := by
  obtain ⟨l, rfl, h'⟩ := h.agg tk38
  obtain ⟨t, rfl, ht⟩ := inp_tkt h'
  exact ⟨t, rfl, ht⟩
/-! ### what is put and taken fits -/
def okB (b : List (List Tkt)) (n : Nat) : Prop := b.length ≤ 20 ∧ ∀ l ∈ b, l.length ≤ n ∧ ∀ t ∈ l, t.cmd.keys.length ≤ 1000 ∧ ∀ k ∈ t.cmd.keys, k.length ≤ 100000
theorem putBx_ok {t : Tkt} (ht : t.cmd.keys.length ≤ 1000 ∧ ∀ k ∈ t.cmd.keys, k.length ≤ 100000) : ∀ (js : List Int) (n : Nat) (b : List (List Tkt)), okB b n → okB (putBx b t js) (n + js.length) := by
  intro js
  induction js with
  | nil => exact fun n b h => h
  | cons j js ih =>
    intro n b h
    have e : putBx b t (j :: js) = putBx (b.set j.toNat (b[j.toNat]?.getD [] ++ [t])) t js := rfl
    rw [e, List.length_cons, show n + (js.length + 1) = (n + 1) + js.length by omega]
    refine ih (n + 1) _ ⟨by rw [List.length_set]; exact h.1, fun l hl => ?_⟩
    rcases List.mem_or_eq_of_mem_set hl with hl | rfl
    · exact ⟨by have := (h.2 l hl).1; omega, (h.2 l hl).2⟩
    · cases hg : b[j.toNat]? with
      | none => exact ⟨by simp, fun u hu => by simp at hu; rw [hu]; exact ht⟩
      | some x =>
        have hx := h.2 x (List.mem_of_getElem? hg)
        refine ⟨by simp only [Option.getD_some, List.length_append, List.length_cons, List.length_nil]; have := hx.1; omega, fun u hu => ?_⟩
        simp only [Option.getD_some, List.mem_append, List.mem_singleton] at hu
        rcases hu with hu | rfl
        · exact hx.2 u hu
        · exact ht
theorem takeBx_ok : ∀ (js : List Int) (n : Nat) (b : List (List Tkt)), okB b n → okB (takeBx b js) n := by
  intro js
  induction js with
  | nil => exact fun n b h => h
  | cons j js ih =>
    intro n b h
    have e : takeBx b (j :: js) = takeBx (b.set j.toNat ((b[j.toNat]?.getD []).drop 1)) js := rfl
    rw [e]
    refine ih n _ ⟨by rw [List.length_set]; exact h.1, fun l hl => ?_⟩
    rcases List.mem_or_eq_of_mem_set hl with hl | rfl
    · exact h.2 l hl
    · cases hg : b[j.toNat]? with
      | none => exact ⟨by simp, fun u hu => by simp at hu⟩
      | some x =>
        have hx := h.2 x (List.mem_of_getElem? hg)
        exact ⟨by simp only [Option.getD_some, List.length_drop]; have := hx.1; omega, fun u hu => hx.2 u (List.mem_of_mem_drop hu)⟩
theorem que0_fit : qFit que0.bx := ⟨by decide, fun l hl => by cases hl⟩
theorem put_fit {q : Que} {t : Tkt} (hb : qFit q.bx) (ht : t.cmd.keys.length ≤ 1000 ∧ ∀ k ∈ t.cmd.keys, k.length ≤ 100000) : qFit (putR q t).1.bx := by
  unfold putR
  split
  · exact que0_fit
  · rename_i hq
    have hq := Classical.not_not.1 hq
    split
    · exact que0_fit
    · split
      · exact que0_fit
      · have h0 : okB q.bx 256 := ⟨hb.1, fun l hl => ⟨(hq.2.2.2.2 l hl).1, (hb.2 l hl).2⟩⟩
        have h1 := putBx_ok (t := t.at_ q.next) ht (shardsL t q.bx.length) 256 q.bx h0
        have h2 := shardsL_len t q.bx.length
        have h3 := hb.1
        exact ⟨h1.1, fun l hl => ⟨by have := (h1.2 l hl).1; omega, (h1.2 l hl).2⟩⟩
theorem take_fit {q : Que} {s : Int} (hb : qFit q.bx) : qFit (takeR q s).1.bx ∧ (takeR q s).2.1.cmd.keys.length ≤ 1000 := by
  have h0 : tkt0.cmd.keys.length ≤ 1000 := by decide
  unfold takeR
  split
  · exact ⟨que0_fit, h0⟩
  · split
    · exact ⟨que0_fit, h0⟩
    · split
      · exact ⟨que0_fit, h0⟩
      · split
        · exact ⟨que0_fit, h0⟩
        · rename_i t l he
          refine ⟨takeBx_ok _ 1000 q.bx hb, ?_⟩
          cases hg : q.bx[s.toNat]? with
          | none => rw [hg] at he; cases he
          | some x =>
            rw [hg] at he
            simp only [Option.getD_some] at he
            exact ((hb.2 x (List.mem_of_getElem? hg)).2 t (by rw [he]; exact .head _)).1
theorem new_fit (n : Int) : qFit (newR n).1.bx := by
  unfold newR
  split
  · exact que0_fit
  · rename_i h
    refine ⟨by rw [List.length_replicate]; omega, fun l hl => ?_⟩
    rw [List.eq_of_mem_replicate hl]
    exact ⟨by simp, fun t ht => by cases ht⟩
theorem tshL_len (t : Tkt) (n : Int) : (tshL t n).length ≤ 1000000 := by
  unfold tshL
  split
  · rename_i h
    have hn : ¬ (n < 1 ∨ n > 4) := fun hc => by
      unfold tshE at h
      by_cases hm : t.mayB = false
      · rw [if_pos hm] at h; exact absurd h (by decide)
      · rw [if_neg hm, if_pos hc] at h; exact absurd h (by decide)
    have := shardsL_len t n.toNat
    omega
  · simp
theorem readyL_len (q : Que) (hb : qFit q.bx) : (readyL q).length ≤ 1000000 := by
  unfold readyL
  split
  · have := readyN_len q.bx q.bx.length; have := hb.1; omega
  · simp
/-! ### lent, and written over -/
section
variable {m M : Nat} {H G : Heap} {v : AV} {bx : List (List Tkt)}
theorem QO.one (h : QO m H v bx) : v.one = true := by rcases h with ⟨rfl, _⟩ | ⟨p, qs, rfl, _⟩ <;> rfl
theorem QO.thaw (h : QO m H v bx) : Thaw 0 H v (boxE.lst bx) := by
  rcases h with ⟨rfl, rfl⟩ | ⟨p, qs, rfl, h⟩
  · exact .nils
  · exact (h.mono (Nat.zero_le _)).thaw
theorem QO.keep (h : QO m H v bx) (k : Keep none H G) : QO m G v bx := by
  rcases h with ⟨rfl, rfl⟩ | ⟨p, qs, rfl, h⟩
  · exact .inl ⟨rfl, rfl⟩
  · exact .inr ⟨p, qs, rfl, h.keep0 k⟩
theorem SO.same (h : SO m M H v) (hs : ∀ b, m ≤ b → b < M → G[b]? = H[b]?) : SO m M G v := by
  rcases h with rfl | ⟨p, qs, rfl, hl, a1, a2, ⟨st, rest, a3, a4⟩, a5⟩
  · exact .inl rfl
  · refine .inr ⟨p, qs, rfl, hl, a1, a2, ⟨st, rest, by rw [hs p a1 a2]; exact a3, a4⟩, fun i x hx => ?_⟩
    obtain ⟨n, hn⟩ := a5 i x hx
    refine ⟨n, ?_⟩
    rcases hn with hn | ⟨b, z, cap, c2, st2, rfl, h1, h2, h3, h4, h5, h6, h7, h8⟩
    · exact .inl hn
    · refine .inr ⟨b, z, cap, c2, st2, rfl, h1, h2, h3, by rw [hs b h1 h2]; exact h4, h5, h6, h7, fun k hkk => ?_⟩
      obtain ⟨t, kv, b1, b2⟩ := h8 k hkk
      refine ⟨t, kv, b1, ?_⟩
      rcases b2 with rfl | ⟨b3, n3, c3, st3, rfl, d1, d2, d3, d4, d5⟩
      · exact .inl rfl
      · exact .inr ⟨b3, n3, c3, st3, rfl, d1, d2, d3, by rw [hs b3 d1 d2]; exact d4, d5⟩
theorem KeyO.sk {p : Nat} {r : Tkt × AV} (h : KeyO m H p r) (hk : r.1.cmd.keys.length ≤ 1000) : SK m H.length H p r.2 := by
  obtain ⟨h1, h2⟩ := h
  have hrl := Enc.row_length (E := Enc.str) r.1.cmd.keys
  rw [show Enc.str.sz = 1 from rfl, Nat.mul_one] at hrl
  rcases h1 with ⟨e, _⟩ | ⟨b, n, st, rest, e, g1, g2, g3, g4⟩
  · exact .inl e
  · rw [show Enc.str.sz = 1 from rfl, Nat.mul_one, hrl] at g4
    refine .inr ⟨b, n, _, st, e, g1, (List.getElem?_eq_some_iff.1 g2).1, fun e2 => h2 (by rw [e, e2]; rfl), g2, g3, by rw [List.length_append, hrl]; omega, by omega, fun i hi => ?_⟩
    have hi2 : i < r.1.cmd.keys.length := by omega
    refine ⟨r.1.cmd.keys[i], ?_⟩
    rw [List.getElem?_append_left (by rw [hrl]; exact hi2)]
    have h9 := Enc.row_at (E := Enc.str) (xs := r.1.cmd.keys) hi2
    rw [show Enc.str.sz = 1 from rfl, Nat.mul_one, str_cells] at h9
    have h10 := congrArg (fun l : List AV => l[0]?) h9
    simp only [List.getElem?_take, List.getElem?_drop, Nat.add_zero, List.getElem?_cons_zero] at h10
    simpa using h10
theorem TlK.sb {p : Nat} {x : AV} {l : List Tkt} (h : TlK m H p x l) (hl : l.length ≤ 1000) (hk : ∀ t ∈ l, t.cmd.keys.length ≤ 1000) : SB m H.length H p x l.length := by
  obtain ⟨z, rs, h1, h2, h3⟩ := h
  rcases h3 with ⟨e, rfl⟩ | ⟨b, cap, st, rest, rfl, hc, g1, g2, g3, g4, g5⟩
  · exact .inl ⟨e, rfl⟩
  · have hll : l.length = rs.length - z := by rw [← h1, List.length_map, List.length_drop]
    refine .inr ⟨b, z, cap, _, st, rfl, g1, (List.getElem?_eq_some_iff.1 g3).1, g2, g3, g4, by rw [List.length_append, rowK_length]; omega, by omega, fun k hk2 => ?_⟩
    have hlt : z + k < rs.length := by omega
    have hr := h2 _ (List.getElem_mem hlt)
    refine ⟨rs[z + k].1, rs[z + k].2, fun j hj => ?_, hr.sk (hk _ ?_)⟩
    · rw [List.getElem?_append_left (by rw [rowK_length]; omega), rowK_get _ _ _ hj, List.getElem?_eq_getElem hlt]; rfl
    · rw [← h1]
      refine List.mem_map.2 ⟨rs[z + k], ?_, rfl⟩
      exact List.mem_of_getElem? (i := k) (by rw [List.getElem?_drop]; exact List.getElem?_eq_getElem hlt)
theorem QO.so (h : QO m H v bx) (hb : qFit bx) : SO m H.length H v := by
  rcases h with ⟨rfl, rfl⟩ | ⟨p, qs, rfl, h⟩
  · exact .inl rfl
  · rw [← h.len]
    refine .inr ⟨p, qs, rfl, by rw [h.len]; exact hb.1, h.ge, h.lt, h.blk, fun i x hx => ?_⟩
    have hi : i < bx.length := by rw [← h.len]; exact (List.getElem?_eq_some_iff.1 hx).1
    have hbi := hb.2 _ (List.getElem_mem hi)
    exact ⟨_, (h.el i x _ hx (List.getElem?_eq_getElem hi)).sb hbi.1 fun t ht => (hbi.2 t ht).1⟩
end
theorem sameQ_lent {m : Nat} {H : Heap} {v : AV} {q : Que} (h : QO m H v q.bx) (hb : qFit q.bx) : WC Try.prog 23 [.agg [.int .i64 q.next, v], q.av] H fun r H' => r = .bool true ∧ H' = H :=
  WC_lend_val (args := [.agg [.int .i64 q.next, v], q.av]) (args' := [q.av, q.av]) ⟨Thaw.agg_row (l' := [_, _]) ⟨.int _ _, h.thaw, trivial⟩, Thaw.agg_row (l' := [_, _]) ⟨.int _ _, .atom _ rfl, trivial⟩, trivial⟩ (.cell _ rfl) (fun J => sameQ_spec q hb J)
theorem same12_lent {m : Nat} {H : Heap} {kv : AV} {t : Tkt} (h : OwnE Enc.str m H kv t.cmd.keys) (hn : t.cmd.keys.length ≤ 1000) : WC Try.prog 25 [t.avK kv, t.av] H fun r H' => r = .bool true ∧ H' = H :=
  WC_lend_val (args := [t.avK kv, t.av]) (args' := [t.av, t.av]) ⟨Tkt.lend h, Thaw.agg_row ⟨.int _ _, .int _ _, .int _ _, .int _ _, .lst _ _, .str _, .int _ _, .int _ _, .int _ _, .int _ _, .int _ _, .int _ _, trivial⟩, trivial⟩ (.cell _ rfl) (fun J => by have := same12_spec t t hn J; rw [decide_eq_true rfl] at this; exact this)
end Go.Proofs.Ytkmkhiipiflelaa

