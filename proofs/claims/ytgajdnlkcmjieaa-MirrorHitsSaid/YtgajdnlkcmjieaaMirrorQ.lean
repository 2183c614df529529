import Derived.Test.YtgajdnlkcmjieaaMirrorF
set_option linter.unusedSimpArgs false
set_option linter.unusedVariables false
set_option maxRecDepth 100000
namespace Go.Proofs.Ytgajdnlkcmjieaa
open Go Go.Proofs Go.Proofs.PI
/-! Plain facts for MirrorHits. -/
structure Act where
  kind : Int
  key : List UInt8
  val : List UInt8
  at_ : Int
def Act.k (a : Act) : Int := a.kind.tmod 6
def ofI (k v : List UInt8) (t : Int) : Item := ⟨k, v, 0, t, 0⟩
def item00 : Item := ⟨[], [], 0, 0, 0⟩
def actL (m : Mir) (a : Act) : Mir × Int :=
  if a.k = 2 then replyL m a.key false item00 else if a.k = 3 then (pushL m a.key, askE m a.key) else if a.k = 4 then tickL m a.at_
  else if a.k = 5 then closeL m else replyL m a.key true (ofI a.key a.val a.at_)
def lstep (k : List UInt8) (s : Item × Bool) (a : Act) : Item × Bool := if a.key ≠ k ∨ a.k = 4 then s else if a.k < 2 then (ofI k a.val a.at_, true) else (s.1, false)
def lfold (d : List Act) (k : List UInt8) : Item × Bool := d.foldl (lstep k) (item00, false)
def shut (d : List Act) : Bool := d.any fun a => decide (a.k = 5)
def lastL (d : List Act) (k : List UInt8) : Item × Bool := if shut d = true then (item00, false) else lfold d k
theorem lfold_snoc (d : List Act) (a : Act) (k : List UInt8) : lfold (d ++ [a]) k = lstep k (lfold d k) a := by simp [lfold, List.foldl_append]
theorem shut_snoc (d : List Act) (a : Act) : shut (d ++ [a]) = (shut d || decide (a.k = 5)) := by simp [shut]
theorem lastL_snoc {d : List Act} {a : Act} (h : a.k ≠ 5) (k : List UInt8) : lastL (d ++ [a]) k = if shut d = true then (item00, false) else lstep k (lastL d k) a := by
  unfold lastL
  rw [shut_snoc, decide_eq_false h, Bool.or_false, lfold_snoc]
  split <;> rfl
theorem lfold_key : ∀ (d : List Act) (k : List UInt8) (s : Item × Bool), (s.2 = true → s.1.key = k) → (d.foldl (lstep k) s).2 = true → (d.foldl (lstep k) s).1.key = k
  | [], k, s, hs, h => hs h
  | a :: d, k, s, hs, h => by
    rw [List.foldl_cons] at h ⊢
    refine lfold_key d k _ ?_ h
    unfold lstep
    split
    · exact hs
    · split
      · exact fun _ => rfl
      · intro h; cases h
theorem lastL_key {d : List Act} {k : List UInt8} {x : Item} (h : lastL d k = (x, true)) : x.key = k := by
  unfold lastL at h
  split at h
  · cases h
  · have := lfold_key d k (item00, false) (fun h => by cases h) (by have := congrArg Prod.snd h; simpa [lfold] using this)
    have h2 : (d.foldl (lstep k) (item00, false)).1 = x := by have := congrArg Prod.fst h; simpa [lfold] using this
    rw [h2] at this; exact this
theorem lfold_told : ∀ (d : List Act) (k : List UInt8) (s : Item × Bool), (d.foldl (lstep k) s).2 = true → s.2 = true ∨ ∃ a ∈ d, a.k < 2 ∧ a.key = k
  | [], k, s, h => .inl h
  | a :: d, k, s, h => by
    rw [List.foldl_cons] at h
    rcases lfold_told d k _ h with h1 | ⟨b, hb, h2⟩
    · unfold lstep at h1
      split at h1
      · exact .inl h1
      · rename_i hn
        split at h1
        · rename_i hk
          refine .inr ⟨a, .head _, hk, Classical.byContradiction fun h => hn (.inl h)⟩
        · cases h1
    · exact .inr ⟨b, .tail _ hb, h2⟩
theorem lastL_told {d : List Act} {k : List UInt8} {x : Item} (h : lastL d k = (x, true)) : ∃ a ∈ d, a.k < 2 ∧ a.key = k := by
  unfold lastL at h
  split at h
  · cases h
  · rcases lfold_told d k (item00, false) (by have := congrArg Prod.snd h; simpa [lfold] using this) with h | h
    · cases h
    · exact h
def firstB (pre : List Act) (a : Act) : Bool := decide (a.k < 2) && pre.all fun b => decide (b.k > 1) || !decide (b.key = a.key)
def keysGo : List Act → List Act → Nat
  | _, [] => 0
  | pre, a :: l => (if firstB pre a = true then 1 else 0) + keysGo (pre ++ [a]) l
def keysL (d : List Act) : Nat := keysGo [] d
theorem keysGo_app : ∀ (l m pre : List Act), keysGo pre (l ++ m) = keysGo pre l + keysGo (pre ++ l) m
  | [], m, pre => by simp [keysGo]
  | a :: l, m, pre => by simp only [List.cons_append, keysGo, keysGo_app l m, List.append_assoc, List.nil_append]; omega
theorem keysL_snoc (d : List Act) (a : Act) : keysL (d ++ [a]) = keysL d + if firstB d a = true then 1 else 0 := by
  unfold keysL; rw [keysGo_app]; simp [keysGo]
theorem keysL_step {d : List Act} {i : Nat} (h : i < d.length) : keysL (d.take (i + 1)) = keysL (d.take i) + if firstB (d.take i) d[i] = true then 1 else 0 := by
  rw [List.take_succ_eq_append_getElem h, keysL_snoc]
theorem keysL_le : ∀ (d : List Act), keysL d ≤ d.length := by
  have : ∀ (l pre : List Act), keysGo pre l ≤ l.length := fun l => by
    induction l with
    | nil => intro pre; simp [keysGo]
    | cons a l ih => intro pre; have := ih (pre ++ [a]); simp only [keysGo, List.length_cons]; split <;> omega
  exact fun d => this d []
theorem drop_one (k : List UInt8) : ∀ (l : List (List UInt8)), l.Nodup → l.length ≤ (l.filter fun x => !decide (x = k)).length + 1
  | [], _ => by simp
  | x :: l, h => by
    simp only [List.nodup_cons] at h
    by_cases e : x = k
    · have : l.filter (fun x => !decide (x = k)) = l := by
        rw [List.filter_eq_self]; intro y hy
        have : y ≠ k := fun e' => h.1 (by rw [e, ← e']; exact hy)
        simpa using this
      rw [List.filter_cons_of_neg (by simp [e]), this]; simp
    · have := drop_one k l h.2
      rw [List.filter_cons_of_pos (by simp [e])]; simp; omega
theorem keysGo_ge : ∀ (l pre : List Act) (S : List (List UInt8)), S.Nodup → (∀ k ∈ S, (∃ b ∈ l, b.k < 2 ∧ b.key = k) ∧ ∀ b ∈ pre, ¬ (b.k < 2 ∧ b.key = k)) → S.length ≤ keysGo pre l
  | [], pre, S, _, h => by
    cases S with
    | nil => simp
    | cons k S => obtain ⟨⟨b, hb, _⟩, _⟩ := h k (.head _); simp at hb
  | a :: l, pre, S, hn, h => by
    simp only [keysGo]
    by_cases hf : firstB pre a = true
    · rw [if_pos hf]
      have h1 := drop_one a.key S hn
      have h2 := keysGo_ge l (pre ++ [a]) (S.filter fun x => !decide (x = a.key)) (hn.sublist (List.filter_sublist ..)) fun k hk => by
        obtain ⟨hk1, hk2⟩ := List.mem_filter.1 hk
        have hk2' : k ≠ a.key := by simpa using hk2
        obtain ⟨⟨b, hb, hb1, hb2⟩, hp⟩ := h k hk1
        refine ⟨?_, fun b' hb' => ?_⟩
        · rcases List.mem_cons.1 hb with rfl | hb
          · exact absurd hb2.symm hk2'
          · exact ⟨b, hb, hb1, hb2⟩
        · rcases List.mem_append.1 hb' with hb' | hb'
          · exact hp b' hb'
          · simp at hb'; subst hb'; exact fun e => hk2' e.2.symm
      omega
    · rw [if_neg hf, Nat.zero_add]
      have hna : ∀ k ∈ S, ¬ (a.k < 2 ∧ a.key = k) := fun k hk ⟨e1, e2⟩ => by
        refine hf ?_
        unfold firstB
        rw [Bool.and_eq_true]
        refine ⟨decide_eq_true e1, List.all_eq_true.2 fun b hb => ?_⟩
        have := (h k hk).2 b hb
        rw [← e2] at this
        rw [Bool.or_eq_true, decide_eq_true_eq, Bool.not_eq_true', decide_eq_false_iff_not]
        by_cases hb2 : b.key = a.key
        · exact .inl (by have h3 : ¬ b.k < 2 := fun h => this ⟨h, hb2⟩; omega)
        · exact .inr hb2
      refine keysGo_ge l (pre ++ [a]) S hn fun k hk => ?_
      obtain ⟨⟨b, hb, hb1, hb2⟩, hp⟩ := h k hk
      refine ⟨?_, fun b' hb' => ?_⟩
      · rcases List.mem_cons.1 hb with rfl | hb
        · exact absurd ⟨hb1, hb2⟩ (hna k hk)
        · exact ⟨b, hb, hb1, hb2⟩
      · rcases List.mem_append.1 hb' with hb' | hb'
        · exact hp b' hb'
        · simp at hb'; subst hb'; exact hna k hk
structure HInv (m : Mir) (d : List Act) : Prop where
  good : Good m
  cl : m.closed = shut d
  hit : ∀ y ∈ m.items, lastL d y.key = (y, true)
  all : keysL d ≤ 32 → m.closed = false → ∀ k x, lastL d k = (x, true) → dueB x m.now = false → x ∈ m.items
theorem hinv_new {now : Int} (h : (newL now).2 = 0) : HInv (newL now).1 [] := by
  unfold newL at h ⊢
  split
  · rename_i h1; rw [if_pos h1] at h; cases h
  · rename_i h1
    exact ⟨⟨by show 0 ≤ now; omega, by show now ≤ _; omega, by simp, fun _ => rfl, by simp, by simp⟩, rfl, by simp, fun _ _ k x h => by simp [lastL, shut, lfold] at h⟩
/-- A key goes. -/
theorem hinv_less {m : Mir} {d : List Act} {a : Act} (h : HInv m d) (ha : askE m a.key = 0) (h5 : a.k ≠ 5) (h4 : a.k ≠ 4) (hd : a.k < 2 → dueB (ofI a.key a.val a.at_) m.now = true) : HInv (pushL m a.key) (d ++ [a]) := by
  have hp := push_good ha
  have hcl : (pushL m a.key).closed = m.closed := by rw [pushL, if_pos ha]
  have hnow : (pushL m a.key).now = m.now := by rw [pushL, if_pos ha]
  have hit : ∀ {y}, y ∈ (pushL m a.key).items ↔ y ∈ m.items ∧ y.key ≠ a.key := fun {y} => by rw [pushL, if_pos ha]; simp [List.mem_filter]
  refine ⟨hp, by rw [hcl, h.cl, shut_snoc, decide_eq_false h5, Bool.or_false], fun y hy => ?_, fun hk hc k x hx hdx => ?_⟩
  · obtain ⟨h1, h2⟩ := hit.1 hy
    have h3 := h.hit y h1
    rw [lastL_snoc h5]
    split
    · rename_i hs; rw [lastL, if_pos hs] at h3; cases h3
    · rw [h3]; unfold lstep; rw [if_pos (.inl fun e => h2 e.symm)]
  · rw [hcl] at hc
    rw [hnow] at hdx
    have hs : ¬ shut d = true := by rw [← h.cl, hc]; simp
    rw [lastL_snoc h5, if_neg hs] at hx
    rw [keysL_snoc] at hk
    unfold lstep at hx
    split at hx
    · rename_i hc'
      have hne : a.key ≠ k := by rcases hc' with h | h; exact h; exact absurd h h4
      exact hit.2 ⟨h.all (by omega) hc k x hx hdx, fun e => hne (e.symm.trans (lastL_key hx))⟩
    · rename_i hc'
      split at hx
      · rename_i hk2
        simp only [Prod.mk.injEq, and_true] at hx
        have hak : a.key = k := Classical.byContradiction fun h => hc' (.inl h)
        rw [← hx, ← hak, hd hk2] at hdx; cases hdx
      · cases hx
theorem hinv_step {m : Mir} {d : List Act} {a : Act} (h : HInv m d) (h0 : 0 ≤ a.kind) (he : (actL m a).2 = 0) : HInv (actL m a).1 (d ++ [a]) := by
  have hk0 : 0 ≤ a.k := Int.tmod_nonneg 6 h0
  have hk6 : a.k < 6 := Int.tmod_lt_of_pos a.kind (by omega)
  unfold actL at he ⊢
  by_cases h2 : a.k = 2
  · rw [if_pos h2] at he ⊢
    unfold replyL at he ⊢
    split
    · rename_i q; rw [if_pos q] at he; exact absurd he q
    · rename_i q
      rw [if_neg (by simp), if_pos (.inr (.inl rfl))]
      exact hinv_less h (Decidable.not_not.1 q) (by omega) (by omega) (fun e => by omega)
  by_cases h3 : a.k = 3
  · rw [if_neg h2, if_pos h3] at he ⊢
    exact hinv_less h he (by omega) (by omega) (fun e => by omega)
  by_cases h4 : a.k = 4
  · rw [if_neg h2, if_neg h3, if_pos h4] at he ⊢
    obtain ⟨t1, t2, t3⟩ := tick_good he
    unfold tickL at he t1 t2 t3 ⊢
    split
    · rename_i q; rw [if_pos q] at he; exact absurd he q
    · rename_i q
      rw [if_neg q] at he t1 t2 t3
      split
      · rename_i q2; rw [if_pos q2] at he; cases he
      · rename_i q2
        rw [if_neg q2] at t1 t2 t3
        refine ⟨t1, by show m.closed = _; rw [h.cl, shut_snoc, decide_eq_false (by omega), Bool.or_false], fun y hy => ?_, fun hk hc k x hx hdx => ?_⟩
        · have h3 := h.hit y (t2.subset hy)
          rw [lastL_snoc (by omega)]
          split
          · rename_i hs; rw [lastL, if_pos hs] at h3; cases h3
          · rw [h3]; unfold lstep; rw [if_pos (.inr h4)]
        · rw [lastL_snoc (by omega)] at hx
          split at hx
          · cases hx
          · unfold lstep at hx; rw [if_pos (.inr h4)] at hx
            rw [keysL_snoc] at hk
            have hdx' : ¬ (x.due ≠ 0 ∧ x.due ≤ a.at_) := by simpa [dueB] using hdx
            refine List.mem_filter.2 ⟨h.all (by omega) hc k x hx ?_, by rw [hdx]; rfl⟩
            unfold dueB; rw [decide_eq_false_iff_not]
            intro ⟨e1, e2⟩; exact hdx' ⟨e1, by omega⟩
  by_cases h5 : a.k = 5
  · rw [if_neg h2, if_neg h3, if_neg h4, if_pos h5] at he ⊢
    rw [closeL, if_neg (by rw [(checkE_iff m).2 h.good]; simp)]
    exact ⟨good_close h.good, by rw [shut_snoc, h5]; simp, by simp, fun _ hc => by cases hc⟩
  rw [if_neg h2, if_neg h3, if_neg h4, if_neg h5] at he ⊢
  have hlt : a.k < 2 := by omega
  obtain ⟨g1, g2, g3, g4, g5, g6⟩ := reply_good he
  unfold replyL at he g2 g3 g4 ⊢
  rw [if_neg (by rw [g1]; simp)] at he g2 g3 g4 ⊢
  by_cases q : true = true ∧ (mayB (ofI a.key a.val a.at_) = false ∨ (ofI a.key a.val a.at_).key ≠ a.key)
  · rw [if_pos q] at he; cases he
  rw [if_neg q] at he g2 g3 g4 ⊢
  by_cases q2 : m.closed = true ∨ true = false ∨ dueB (ofI a.key a.val a.at_) m.now = true
  · rw [if_pos q2]
    by_cases hc : m.closed = true
    · have hcl : (pushL m a.key).closed = true := by rw [pushL, if_pos g1]; exact hc
      have hem := (push_good g1).closed hcl
      exact ⟨push_good g1, by rw [hcl, shut_snoc, ← h.cl, hc]; rfl, by rw [hem]; simp, fun _ e => by rw [hcl] at e; cases e⟩
    · exact hinv_less h g1 h5 h4 fun _ => by
        rcases q2 with e | e | e
        · exact absurd e hc
        · cases e
        · exact e
  · rw [if_neg q2] at g2 g3 g4 ⊢
    have hc : m.closed = false := by cases hm : m.closed with
      | false => rfl
      | true => exact absurd (.inl hm) q2
    have hs : ¬ shut d = true := by rw [← h.cl, hc]; simp
    have hdn : dueB (ofI a.key a.val a.at_) m.now = false := by cases hm : dueB (ofI a.key a.val a.at_) m.now with
      | false => rfl
      | true => exact absurd (.inr (.inr hm)) q2
    have hit : ∀ {y}, y ∈ (pushL m a.key).items ↔ y ∈ m.items ∧ y.key ≠ a.key := fun {y} => by rw [pushL, if_pos g1]; simp [List.mem_filter]
    have hold : ∀ y ∈ (pushL m a.key).items ++ [ofI a.key a.val a.at_], lastL (d ++ [a]) y.key = (y, true) := fun y hy => by
      rw [lastL_snoc h5, if_neg hs]
      rcases List.mem_append.1 hy with hy | hy
      · obtain ⟨k1, k2⟩ := hit.1 hy
        rw [h.hit y k1]; unfold lstep; rw [if_pos (.inl fun e => k2 e.symm)]
      · simp at hy; subst hy
        unfold lstep; rw [if_neg (by simp [ofI]; exact h4), if_pos hlt]; rfl
    have hnd : (((pushL m a.key).items ++ [ofI a.key a.val a.at_]).map Item.key).Nodup := by
      rw [List.map_append, List.nodup_append]
      refine ⟨(push_good g1).keys, by simp, fun k hk k' hk' e => ?_⟩
      obtain ⟨y, hy, rfl⟩ := List.mem_map.1 hk
      simp at hk'; subst hk'
      exact (hit.1 hy).2 e
    have hle : ((pushL m a.key).items ++ [ofI a.key a.val a.at_]).length ≤ keysL (d ++ [a]) := by
      have := keysGo_ge (d ++ [a]) [] _ hnd fun k hk => by
        obtain ⟨y, hy, rfl⟩ := List.mem_map.1 hk
        exact ⟨lastL_told (hold y hy), by simp⟩
      simpa [keysL] using this
    refine ⟨g2, by show m.closed = _; rw [h.cl, shut_snoc, decide_eq_false h5, Bool.or_false], fun y hy => hold y ?_, fun hk _ k x hx hdx => ?_⟩
    · show y ∈ _
      have hy' : y ∈ (if (pushL m a.key).items.length + 1 > 32 then ((pushL m a.key).items ++ [ofI a.key a.val a.at_]).drop 1 else (pushL m a.key).items ++ [ofI a.key a.val a.at_]) := hy
      split at hy'
      · exact List.mem_of_mem_drop hy'
      · exact hy'
    · show x ∈ (if (pushL m a.key).items.length + 1 > 32 then ((pushL m a.key).items ++ [ofI a.key a.val a.at_]).drop 1 else (pushL m a.key).items ++ [ofI a.key a.val a.at_])
      rw [if_neg (by rw [List.length_append] at hle; simp only [List.length_singleton] at hle; omega)]
      rw [lastL_snoc h5, if_neg hs] at hx
      unfold lstep at hx
      split at hx
      · rename_i hc'
        have hne : a.key ≠ k := by rcases hc' with h | h; exact h; exact absurd h h4
        rw [keysL_snoc] at hk
        exact List.mem_append.2 (.inl (hit.2 ⟨h.all (by omega) hc k x hx hdx, fun e => hne (e.symm.trans (lastL_key hx))⟩))
      · rename_i hc'
        simp only [Prod.mk.injEq, and_true] at hx
        have hak : a.key = k := Classical.byContradiction fun h => hc' (.inl h)
        rw [← hx, ← hak]; simp
/-- What the statement's end asks. -/
theorem hinv_end {m : Mir} {d : List Act} {k : List UInt8} (h : HInv m d) (ha : askE m k = 0) :
    (∀ x, getL m k = some x → lastL d k = (x, true) ∧ dueB x m.now = false) ∧ (getL m k = none → keysL d ≤ 32 → (lastL d k).2 = true → dueB (lastL d k).1 m.now = true) := by
  refine ⟨fun x hx => ?_, fun hx hk hw => ?_⟩
  · rw [getL, if_pos ha] at hx
    have h1 := List.mem_of_find?_eq_some hx
    have h2 : x.key = k := by have := List.find?_some hx; simpa using this
    exact ⟨by rw [← h2]; exact h.hit x h1, (h.good.may x h1).2⟩
  · rw [getL, if_pos ha] at hx
    cases hd : dueB (lastL d k).1 m.now with
    | true => rfl
    | false =>
      have hc : m.closed = false := by
        rw [h.cl]
        cases hs : shut d with
        | false => rfl
        | true => rw [lastL, if_pos hs] at hw; cases hw
      have hl : lastL d k = ((lastL d k).1, true) := Prod.ext rfl hw
      have := h.all hk hc k _ hl hd
      have h2 := List.find?_eq_none.1 hx _ this
      rw [lastL_key hl] at h2
      simp at h2
end Go.Proofs.Ytgajdnlkcmjieaa
