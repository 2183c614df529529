import Derived.Test.YtgajdnlkcmjieaaMirrorC
set_option linter.unusedSimpArgs false
set_option linter.unusedVariables false
set_option maxRecDepth 100000
namespace Go.Proofs.Ytgajdnlkcmjieaa
open Go Go.Proofs Go.Proofs.PI
theorem inp_item {n : Nat} {l : List AV} (h : InpP T (n + 2) 28 l) : ∃ x : Item, l = itemE.cells x ∧ True := by
  obtain ⟨parts, rfl, hl, hp⟩ := InpP.struct tk28 h
  obtain ⟨p0, p1, p2, p3, p4, rfl⟩ := len5 hl
  obtain ⟨s0, rfl, -⟩ := InpP.str tk9 (hp 0 _ _ rfl rfl)
  obtain ⟨s1, rfl, -⟩ := InpP.str tk9 (hp 1 _ _ rfl rfl)
  obtain ⟨s2, rfl, -⟩ := InpP.int tk25 (hp 2 _ _ rfl rfl)
  obtain ⟨s3, rfl, -⟩ := InpP.int tk3 (hp 3 _ _ rfl rfl)
  obtain ⟨s4, rfl, -⟩ := InpP.int tk26 (hp 4 _ _ rfl rfl)
  exact ⟨⟨s0, s1, s2, s3, s4⟩, rfl, trivial⟩
theorem inp_mir {n : Nat} {a : AV} (h : InpPV T (n + 4) 24 a) : ∃ m : Mir, a = m.av ∧ m.items.length ≤ 140737488355328 := by
  obtain ⟨l, rfl, h'⟩ := h.agg tk24
  obtain ⟨parts, rfl, hl, hp⟩ := InpP.struct tk24 h'
  obtain ⟨p0, p1, p2, rfl⟩ := len3 hl
  obtain ⟨s0, rfl, -, -, hlen⟩ := InpP.slice (E := itemE) tk22 (fun x hx => inp_item hx) (hp 0 _ _ rfl rfl)
  obtain ⟨s1, rfl, -⟩ := InpP.int tk3 (hp 1 _ _ rfl rfl)
  obtain ⟨s2, rfl⟩ := InpP.bool tk4 (hp 2 _ _ rfl rfl)
  exact ⟨⟨s0, s1, s2⟩, rfl, by have : s0.length * 56 ≤ reachBytes := hlen _ td28; unfold reachBytes at this; show s0.length ≤ _; omega⟩

/-! ### which mirrors may be -/
structure Good (m : Mir) : Prop where
  now0 : 0 ≤ m.now
  now1 : m.now ≤ 1099511627776
  len : m.items.length ≤ 32
  closed : m.closed = true → m.items = []
  may : ∀ x ∈ m.items, mayB x = true ∧ dueB x m.now = false
  keys : (m.items.map Item.key).Nodup
theorem goodGo_iff (now : Int) : ∀ (l pre : List Item), goodGo now pre l = true ↔ (∀ x ∈ l, mayB x = true ∧ dueB x now = false ∧ ∀ y ∈ pre, y.key ≠ x.key) ∧ (l.map Item.key).Nodup
  | [], pre => by simp [goodGo]
  | x :: l, pre => by
    rw [goodGo, Bool.and_eq_true, goodGo_iff now l]
    simp only [Bool.and_eq_true, Bool.not_eq_true', List.any_eq_false, decide_eq_true_eq, List.map_cons, List.nodup_cons, List.mem_map, List.mem_cons, List.mem_append, List.not_mem_nil, or_false]
    constructor
    · rintro ⟨⟨⟨h1, h2⟩, h3⟩, h4, h5⟩
      refine ⟨fun y hy => ?_, fun ⟨y, hy, e⟩ => (h4 y hy).2.2 x (.inr rfl) e.symm, h5⟩
      rcases hy with rfl | hy
      · exact ⟨h1, h2, h3⟩
      · exact ⟨(h4 y hy).1, (h4 y hy).2.1, fun z hz => (h4 y hy).2.2 z (.inl hz)⟩
    · rintro ⟨h1, h2, h3⟩
      refine ⟨⟨⟨(h1 x (.inl rfl)).1, (h1 x (.inl rfl)).2.1⟩, (h1 x (.inl rfl)).2.2⟩, fun y hy => ⟨(h1 y (.inr hy)).1, (h1 y (.inr hy)).2.1, fun z hz => ?_⟩, h3⟩
      rcases hz with hz | rfl
      · exact (h1 y (.inr hy)).2.2 z hz
      · exact fun e => h2 ⟨y, hy, e.symm⟩
theorem checkE_iff (m : Mir) : checkE m = 0 ↔ Good m := by
  unfold checkE
  constructor
  · intro h
    split at h
    · cases h
    · rename_i hc
      have hg : goodGo m.now [] m.items = true := by
        cases hq : goodGo m.now [] m.items with
        | true => rfl
        | false => exact absurd (.inr (.inr (.inr (.inr hq)))) hc
      obtain ⟨g1, g2⟩ := (goodGo_iff _ _ _).1 hg
      refine ⟨by omega, by omega, by omega, fun h => ?_, fun x hx => ⟨(g1 x hx).1, (g1 x hx).2.1⟩, g2⟩
      refine List.eq_nil_of_length_eq_zero ?_
      rcases Nat.eq_zero_or_pos m.items.length with h0 | h0
      · exact h0
      · exact absurd (.inr (.inr (.inr (.inl ⟨h, h0⟩)))) hc
  · intro h
    have hg : goodGo m.now [] m.items = true := (goodGo_iff _ _ _).2 ⟨fun x hx => ⟨(h.may x hx).1, (h.may x hx).2, by simp⟩, h.keys⟩
    have := h.now0; have := h.now1; have := h.len
    rw [if_neg]
    rintro (q | q | q | q | q)
    · omega
    · omega
    · omega
    · rw [h.closed q.1] at q; simp at q
    · rw [hg] at q; cases q
theorem checkE_or (m : Mir) : checkE m = 0 ∨ checkE m = 8 := by unfold checkE; split <;> simp
theorem good_filter {m : Mir} (h : Good m) (p : Item → Bool) : Good ⟨m.items.filter p, m.now, m.closed⟩ :=
  ⟨h.now0, h.now1, Nat.le_trans (List.length_filter_le _ _) h.len, fun hc => by show m.items.filter p = []; rw [h.closed hc]; rfl, fun x hx => h.may x (List.mem_filter.1 hx).1, h.keys.sublist ((List.filter_sublist ..).map _)⟩
theorem askE_ok {m : Mir} {k : List UInt8} : askE m k = 0 ↔ Good m ∧ keyB k = true := by
  rw [askE, ← checkE_iff]
  by_cases h : checkE m = 0
  · rw [if_neg (by simpa using h)]; cases keyB k <;> simp [h]
  · rw [if_pos h]; simp [h]
theorem push_good {m : Mir} {k : List UInt8} (h : askE m k = 0) : Good (pushL m k) := by
  rw [pushL, if_pos h]; exact good_filter (askE_ok.1 h).1 _
theorem push_none {m : Mir} {k : List UInt8} (h : askE m k = 0) : ∀ x ∈ (pushL m k).items, x.key ≠ k := by
  rw [pushL, if_pos h]; intro x hx; have := (List.mem_filter.1 hx).2; simpa using this
/-- A reply that is taken: what may be, and what a get answers then. -/
theorem reply_good {m : Mir} {k : List UInt8} {b : Bool} {x : Item} (h : (replyL m k b x).2 = 0) : askE m k = 0 ∧ Good (replyL m k b x).1 ∧ (replyL m k b x).1.now = m.now ∧ (replyL m k b x).1.closed = m.closed ∧ askE (replyL m k b x).1 k = 0 ∧
    getL (replyL m k b x).1 k = if m.closed = true ∨ b = false ∨ dueB x m.now = true then none else some x := by
  have ha : askE m k = 0 := by
    unfold replyL at h
    split at h
    · rename_i h0; exact absurd h h0
    · rename_i h0; simpa using h0
  have hg := push_good ha
  have hno := push_none ha
  have hpn : (pushL m k).now = m.now ∧ (pushL m k).closed = m.closed := by rw [pushL, if_pos ha]; exact ⟨rfl, rfl⟩
  have hk := (askE_ok.1 ha).2
  have fin : ∀ n : Mir, Good n → askE n k = 0 := fun n hn => askE_ok.2 ⟨hn, hk⟩
  unfold replyL at h ⊢
  rw [if_neg (by simpa using ha)] at h ⊢
  by_cases hc1 : b = true ∧ (mayB x = false ∨ x.key ≠ k)
  · rw [if_pos hc1] at h; cases h
  · rw [if_neg hc1]
    by_cases hc2 : m.closed = true ∨ b = false ∨ dueB x m.now = true
    · rw [if_pos hc2, if_pos hc2]
      refine ⟨ha, hg, hpn.1, hpn.2, fin _ hg, ?_⟩
      rw [getL, if_pos (fin _ hg), findK, List.find?_eq_none]
      intro y hy; simpa using hno y hy
    · rw [if_neg hc2, if_neg hc2]
      have hcl : m.closed = false := by cases hq : m.closed with | false => rfl | true => exact absurd (.inl hq) hc2
      have hb : b = true := by cases b with | true => rfl | false => exact absurd (.inr (.inl rfl)) hc2
      have hdu : dueB x m.now = false := by cases hq : dueB x m.now with | false => rfl | true => exact absurd (.inr (.inr hq)) hc2
      have hmx : mayB x = true ∧ x.key = k := by
        refine ⟨?_, ?_⟩
        · cases hq : mayB x with | true => rfl | false => exact absurd ⟨hb, .inl hq⟩ hc1
        · rcases Classical.em (x.key = k) with h | h
          · exact h
          · exact absurd ⟨hb, .inr h⟩ hc1
      generalize hL : (if (pushL m k).items.length + 1 > 32 then ((pushL m k).items ++ [x]).drop 1 else (pushL m k).items ++ [x]) = L
      have hsub : L.Sublist ((pushL m k).items ++ [x]) := by
        rw [← hL]; split
        · exact List.drop_sublist ..
        · exact List.Sublist.refl _
      have hlen : L.length ≤ 32 := by
        have := hg.len
        rw [← hL]; split
        · simp; omega
        · simp; omega
      have hnd : (((pushL m k).items ++ [x]).map Item.key).Nodup := by
        rw [List.map_append, List.nodup_append]
        refine ⟨hg.keys, by simp, fun a ha' c hc => ?_⟩
        simp at hc; subst hc
        obtain ⟨y, hy, rfl⟩ := List.mem_map.1 ha'
        rw [hmx.2]; exact hno y hy
      have hgood : Good ⟨L, m.now, m.closed⟩ := by
        refine ⟨(askE_ok.1 ha).1.now0, (askE_ok.1 ha).1.now1, hlen, fun hc => ?_, fun y hy => ?_, hnd.sublist (hsub.map _)⟩
        · rw [hcl] at hc; cases hc
        · have := hsub.subset hy
          rcases List.mem_append.1 this with h1 | h1
          · have := hg.may y h1; rw [hpn.1] at this; exact this
          · simp at h1; subst h1; exact ⟨hmx.1, hdu⟩
      refine ⟨ha, hgood, rfl, rfl, fin _ hgood, ?_⟩
      rw [getL, if_pos (fin _ hgood), findK]
      obtain ⟨P, hP, hPs⟩ : ∃ P : List Item, L = P ++ [x] ∧ P.Sublist (pushL m k).items := by
        rw [← hL]; split
        · cases hq : (pushL m k).items with
          | nil => rename_i h1; rw [hq] at h1; simp at h1
          | cons y l => exact ⟨l, by simp, List.sublist_cons_self ..⟩
        · exact ⟨_, rfl, List.Sublist.refl _⟩
      show L.find? _ = some x
      rw [hP, List.find?_append]
      have : P.find? (fun x => decide (x.key = k)) = none := by
        rw [List.find?_eq_none]; intro y hy; simpa using hno y (hPs.subset hy)
      rw [this]; simp [hmx.2]
end Go.Proofs.Ytgajdnlkcmjieaa
