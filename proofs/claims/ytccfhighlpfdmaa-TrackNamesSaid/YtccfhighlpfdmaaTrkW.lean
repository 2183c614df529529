import Derived.Test.YtccfhighlpfdmaaTrkU2
set_option linter.unusedSimpArgs false
set_option linter.unusedVariables false
set_option maxRecDepth 100000
set_option maxHeartbeats 4000000
namespace Go.Proofs.Ytccfhighlpfdmaa
open Go Go.Proofs Go.Proofs.PI
theorem trRead_spec (l : List Tk) (i : Int) (n : Nm) (hn : l.length ≤ 140737488355328) (hns : ∀ t ∈ l, t.ns.length ≤ 140737488355328) (H : Heap) :
    WC Try.prog 15 [trAv l, .int .i64 i, n.av] H fun r H' => r = .tup [trAv (trRead l i n).1.1, puE.lst (trRead l i n).1.2, .int .i64 (trRead l i n).2] ∧ H' = H :=
  WC_val fun K hK => (trRead_own l i n hn hns H).mono fun r H' ⟨⟨v, pv, e, o, op⟩, k⟩ => hK r H' (by subst e; exact Thaw.tup_row ⟨Thaw.agg_row ⟨o.thaw, trivial⟩, op.thaw (by decide), .int _ _, trivial⟩) k
/-! ### inputs -/
theorem inp_name {n : Nat} {x : List AV} (h : InpP T (n + 2) 38 x) : ∃ c : Nm, x = nmE.cells c ∧ c.key.length ≤ 140737488355328 := by
  obtain ⟨parts2, rfl, hl2, hp2⟩ := InpP.struct tk38 h
  obtain ⟨i0, i1, rfl⟩ := len2 hl2
  obtain ⟨t0, rfl, -⟩ := InpP.int tk3 (hp2 0 _ _ rfl rfl)
  obtain ⟨t1, rfl, hs⟩ := InpP.str tk9 (hp2 1 _ _ rfl rfl)
  exact ⟨⟨t0, t1⟩, rfl, by unfold reachBytes at hs; exact Nat.le_trans hs (by decide)⟩
theorem inp_tracked {n : Nat} {x : List AV} (h : InpP T (n + 4) 36 x) : ∃ t : Tk, x = tkE.cells t ∧ tkFit t := by
  obtain ⟨parts2, rfl, hl2, hp2⟩ := InpP.struct tk36 h
  obtain ⟨i0, i1, rfl⟩ := len2 hl2
  obtain ⟨t0, rfl⟩ := InpP.bool tk4 (hp2 0 _ _ rfl rfl)
  obtain ⟨t1, rfl, hs, -, hd⟩ := InpP.slice (E := nmE) (Pr := fun c => c.key.length ≤ 140737488355328) tk34 (fun x hx => inp_name hx) (hp2 1 _ _ rfl rfl)
  exact ⟨⟨t0, t1⟩, rfl, by have : t1.length * 24 ≤ reachBytes := hd _ td38; unfold reachBytes at this; show t1.length ≤ _; omega, hs⟩
theorem inp_track {n : Nat} {a : AV} (h : InpPV T (n + 6) 24 a) : ∃ l : List Tk, a = trAv l ∧ l.length ≤ 140737488355328 ∧ ∀ t ∈ l, tkFit t := by
  obtain ⟨l, rfl, h'⟩ := h.agg tk24
  obtain ⟨parts, rfl, hl, hp⟩ := InpP.struct tk24 h'
  obtain ⟨p0, rfl⟩ := len1 hl
  obtain ⟨t1, rfl, hs, -, hd⟩ := InpP.slice (E := tkE) (Pr := tkFit) tk22 (fun x hx => inp_tracked hx) (hp 0 _ _ rfl rfl)
  exact ⟨t1, rfl, by have : t1.length * 32 ≤ reachBytes := hd _ td36; unfold reachBytes at this; omega, hs⟩
theorem inp_nameV {n : Nat} {a : AV} (h : InpPV T (n + 3) 38 a) : ∃ c : Nm, a = c.av ∧ c.key.length ≤ 140737488355328 := by
  obtain ⟨l, rfl, h'⟩ := h.agg tk38
  obtain ⟨c, rfl, hc⟩ := inp_name h'
  exact ⟨c, rfl, hc⟩
/-! ### plain: what Read does -/
theorem mem_readN (l : List Nm) (n m : Nm) : m ∈ readN l n ↔ m ∈ l ∨ m = n := by
  unfold readN
  rw [List.mem_append, List.mem_filter, List.mem_singleton]
  constructor
  · rintro (⟨h, _⟩ | h)
    · exact .inl h
    · exact .inr h
  · rintro (h | h)
    · by_cases e : m = n
      · exact .inr e
      · exact .inl ⟨h, by simp [e]⟩
    · exact .inr h
theorem readN_nodup {l : List Nm} (h : l.Nodup) (n : Nm) : (readN l n).Nodup := by
  unfold readN
  rw [List.nodup_append]
  refine ⟨h.filter _, by simp, fun a ha b hb e => ?_⟩
  rw [List.mem_singleton] at hb
  have := (List.mem_filter.1 ha).2
  simp [e, hb] at this
theorem readN_len (l : List Nm) (n : Nm) : (readN l n).length ≤ l.length + 1 := by
  unfold readN
  have := List.length_filter_le (fun m => !decide (m = n)) l
  rw [List.length_append, List.length_cons, List.length_nil]; omega
theorem readN_len_mem {l : List Nm} {n : Nm} (h : n ∈ l) : (readN l n).length ≤ l.length := by
  unfold readN
  have : (l.filter fun m => !decide (m = n)).length < l.length := by
    rw [List.length_filter_lt_length_iff_exists]
    exact ⟨n, h, by simp⟩
  rw [List.length_append, List.length_cons, List.length_nil]; omega
theorem readN_fresh {l : List Nm} {n : Nm} (h : n ∉ l) : readN l n = l ++ [n] := by
  unfold readN
  congr 1
  rw [List.filter_eq_self]
  intro m hm
  have : m ≠ n := fun e => h (by rw [← e]; exact hm)
  simp [this]
theorem readT_may {t : Tk} {n : Nm} (h : t.may) (ho : t.on = true) (hn : n.mayB = true) (i : Nat) : (readT i t n).1.may ∧ (readT i t n).1.on = true ∧ 1 ≤ (readT i t n).1.ns.length ∧ (readT i t n).1.ns.getLast? = some n := by
  obtain ⟨⟨-, h2⟩, h3, h4⟩ := h
  have hl := readN_len t.ns n
  have hm : ∀ m ∈ readN t.ns n, m.mayB = true := fun m hm => by
    rcases (mem_readN _ _ _).1 hm with h | h
    · exact h3 m h
    · rw [h]; exact hn
  have hd := readN_nodup h4 n
  have hla : (readN t.ns n).getLast? = some n := by unfold readN; simp
  have hlen : (readN t.ns n).length = (t.ns.filter fun m => !decide (m = n)).length + 1 := by unfold readN; simp
  unfold readT
  split
  · rename_i h16
    exact ⟨⟨⟨.inl ho, h16⟩, hm, hd⟩, ho, by show 1 ≤ (readN _ _).length; omega, hla⟩
  · rename_i h16
    refine ⟨⟨⟨.inl ho, by show ((readN t.ns n).drop 1).length ≤ 16; rw [List.length_drop]; omega⟩, fun m hm2 => hm m (List.mem_of_mem_drop hm2), hd.sublist (List.drop_sublist _ _)⟩, ho, by show 1 ≤ ((readN t.ns n).drop 1).length; rw [List.length_drop]; omega, ?_⟩
    show ((readN t.ns n).drop 1).getLast? = some n
    rw [List.getLast?_drop, hla, if_neg (by omega)]
theorem trMay_set {l : List Tk} (h : trMay l) (i : Nat) {t : Tk} (ht : t.may) : trMay (l.set i t) := by
  refine ⟨by rw [List.length_set]; exact h.1, by rw [List.length_set]; exact h.2.1, fun u hu => ?_⟩
  rcases List.mem_or_eq_of_mem_set hu with hu | hu
  · exact h.2.2 u hu
  · rw [hu]; exact ht
/-- What the law asks of one who read. -/
theorem readT_old {t : Tk} {n : Nm} (h : t.may) (i : Nat) (hc : n ∈ t.ns ∨ t.ns.length < 16) : (readT i t n).2 = [] ∧ ∀ m ∈ t.ns, m ∈ (readT i t n).1.ns := by
  have h16 : (readN t.ns n).length ≤ 16 := by
    rcases hc with hc | hc
    · exact Nat.le_trans (readN_len_mem hc) h.1.2
    · have := readN_len t.ns n; omega
  unfold readT; rw [if_pos h16]
  exact ⟨rfl, fun m hm => (mem_readN _ _ _).2 (.inl hm)⟩
theorem readT_new {t : Tk} {n : Nm} (h : t.may) (i : Nat) (h1 : n ∉ t.ns) (h2 : ¬ t.ns.length < 16) : ∃ m l, t.ns = m :: l ∧ l.length = 15 ∧ (readT i t n).2 = [pushN i m] ∧ (readT i t n).1.ns = l ++ [n] ∧ m ∉ l ++ [n] := by
  obtain ⟨⟨-, h3⟩, h4, h5⟩ := h
  cases hns : t.ns with
  | nil => rw [hns] at h2; simp at h2
  | cons m l =>
    rw [hns] at h1 h2 h3 h5
    rw [List.length_cons] at h2 h3
    refine ⟨m, l, rfl, by omega, ?_, ?_, ?_⟩
    · unfold readT; rw [hns, readN_fresh h1, if_neg (by simp; omega)]; rfl
    · unfold readT; rw [hns, readN_fresh h1, if_neg (by simp; omega)]; rfl
    · intro hm
      rcases List.mem_append.1 hm with hm | hm
      · exact (List.nodup_cons.1 h5).1 hm
      · rw [List.mem_singleton] at hm; exact h1 (by rw [hm]; exact .head _)
theorem trRead_cases (l : List Tk) (i : Int) (n : Nm) (hm : trMay l) : (¬ (trRead l i n).2 = 0 ∧ (trRead l i n).1 = ([], [])) ∨ (∃ j : Nat, i = j ∧ ∃ h : j < l.length, n.mayB = true ∧ ((l[j].on = false ∧ trRead l i n = ((l, []), 0)) ∨ (l[j].on = true ∧ trRead l i n = ((l.set j (readT j l[j] n).1, (readT j l[j] n).2), 0)))) := by
  by_cases ha : askE l i = 0
  · obtain ⟨-, h0, h1⟩ := askE_ok ha
    obtain ⟨j, rfl⟩ : ∃ j : Nat, i = j := ⟨i.toNat, by omega⟩
    have hj : j < l.length := by omega
    by_cases hn : n.mayB = true
    · refine .inr ⟨j, rfl, hj, hn, ?_⟩
      unfold trRead; rw [if_pos ha, if_pos hn, Int.toNat_natCast, tkAt_eq hj]
      cases h : l[j].on
      · exact .inl ⟨rfl, by rw [if_neg (by decide)]⟩
      · exact .inr ⟨rfl, by rw [if_pos rfl]⟩
    · left; unfold trRead; rw [if_pos ha, if_neg hn]; exact ⟨by decide, rfl⟩
  · left; unfold trRead; rw [if_neg ha]; exact ⟨ha, rfl⟩
end Go.Proofs.Ytccfhighlpfdmaa
