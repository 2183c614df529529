import Derived.Test.YtkmkhiipiflelaaTktTk
set_option linter.unusedSimpArgs false
set_option linter.unusedVariables false
set_option maxRecDepth 100000
set_option maxHeartbeats 4000000
namespace Go.Proofs.Ytkmkhiipiflelaa
open Go Go.Proofs Go.Proofs.PI
/-! ### what a command needs -/
theorem kGo_all (l : List (List UInt8)) : kGo [] l = (decide (∀ k ∈ l, 1 ≤ k.length ∧ k.length ≤ 32) && decide l.Nodup) := by
  rw [Bool.eq_iff_iff, kGo_iff]
  simp
theorem mem_needL {c : Cmd} {n : Int} {m : Nat} {z : Int} : z ∈ needL c n m ↔ ∃ i : Nat, i < m ∧ needB c n i = true ∧ (i : Int) = z := by
  simp only [needL, List.mem_map, List.mem_filter, List.mem_range]
  exact ⟨fun ⟨i, ⟨h1, h2⟩, h3⟩ => ⟨i, h1, h2, h3⟩, fun ⟨i, h1, h2, h3⟩ => ⟨i, ⟨h1, h2⟩, h3⟩⟩
theorem cmdB_iff {c : Cmd} : cmdB c = true ↔ (1 ≤ c.kind ∧ c.kind ≤ 11 ∧ 0 ≤ c.ten ∧ c.ten < 4) ∧ (loK c.kind ≤ c.keys.length ∧ c.keys.length ≤ hiK c.kind) ∧ (∀ k ∈ c.keys, 1 ≤ k.length ∧ k.length ≤ 32) ∧ c.keys.Nodup ∧ restB c = true := by
  simp only [cmdB, keysB, kGo_all, Bool.and_eq_true, decide_eq_true_eq]
  exact ⟨fun ⟨⟨h1, h2, h3, h4⟩, h5⟩ => ⟨h1, h2, h3, h4, h5⟩, fun ⟨h1, h2, h3, h4, h5⟩ => ⟨⟨h1, h2, h3, h4⟩, h5⟩⟩
theorem hstep_nn (h : Int) (b : UInt8) : 0 ≤ hstep h b := by unfold hstep; rw [IntKind.wrap_u64]; omega
theorem foldl_nn : ∀ (l : List UInt8) (h : Int), 0 ≤ h → 0 ≤ l.foldl hstep h
  | [], h, hh => hh
  | b :: l, h, hh => foldl_nn l _ (hstep_nn h b)
theorem hash_nn (s : List UInt8) : 0 ≤ hash s := foldl_nn s _ (by decide)
theorem shard_range {c : Cmd} (h : cmdB c = true) {k : List UInt8} (hk : k ∈ c.keys) {n : Int} (h1 : 1 ≤ n) (h4 : n ≤ 4) : ∃ i : Nat, i < n.toNat ∧ (shardL c.ten k n).1 = i := by
  obtain ⟨g1, g2, g3, _⟩ := cmdB_iff.1 h
  have gk := g3 k hk
  have hkb : keyB k = true := by unfold keyB; rw [decide_eq_true_eq]; exact gk
  unfold shardL
  rw [if_neg (by omega), if_neg (by simp [hkb]), if_neg (by omega)]
  have hn : IntKind.u64.wrap n = n := by rw [IntKind.wrap_u64]; omega
  have q0 := Int.tmod_nonneg n (hash_nn (tbyte c.ten :: k))
  have q4 := Int.tmod_lt_of_pos (hash (tbyte c.ten :: k)) (show 0 < n by omega)
  have hw : IntKind.i64.wrap ((hash (tbyte c.ten :: k)).tmod n) = (hash (tbyte c.ten :: k)).tmod n := i64_id _ (by omega) (by omega)
  rw [hn]
  simp only [hw]
  exact ⟨((hash (tbyte c.ten :: k)).tmod n).toNat, by omega, by omega⟩
theorem shE_ok {c : Cmd} {n : Int} : shE c n = 0 ↔ cmdB c = true ∧ 1 ≤ n ∧ n ≤ 4 := by
  unfold shE
  cases cmdB c
  · simp
  · simp only [Bool.true_eq_false, if_false, true_and]
    split <;> simp <;> omega
theorem mem_shL {c : Cmd} {n : Int} (h : shE c n = 0) {z : Int} : z ∈ shL c n ↔ ∃ i : Nat, i < n.toNat ∧ needB c n i = true ∧ (i : Int) = z := by
  rw [shL, if_pos h]; exact mem_needL
theorem key_in {c : Cmd} {n : Int} (h : shE c n = 0) {k : List UInt8} (hk : k ∈ c.keys) : (shardL c.ten k n).1 ∈ shL c n := by
  obtain ⟨h1, h2, h3⟩ := shE_ok.1 h
  obtain ⟨i, hi, he⟩ := shard_range h1 hk h2 h3
  rw [mem_shL h]
  refine ⟨i, hi, ?_, he.symm⟩
  unfold needB
  rw [Bool.or_eq_true, List.any_eq_true]
  exact .inr ⟨k, hk, by simp [he]⟩
/-! ### whose boxes hold what is left -/
theorem shardsL_filter (t : Tkt) (n : Nat) : shardsL t n = ((List.range n).filter fun i : Nat => decide ((i : Int) ∈ shardsL t n)).map fun i : Nat => (i : Int) := by
  have key : ∀ p : Nat → Bool, ((List.range n).filter p).map (fun i : Nat => (i : Int)) = ((List.range n).filter fun i : Nat => decide ((i : Int) ∈ ((List.range n).filter p).map fun i : Nat => (i : Int))).map fun i : Nat => (i : Int) := fun p => by
    congr 1
    refine List.filter_congr fun i hi => ?_
    rw [Bool.eq_iff_iff, decide_eq_true_eq, List.mem_map]
    constructor
    · intro h; exact ⟨i, List.mem_filter.2 ⟨hi, h⟩, rfl⟩
    · rintro ⟨j, hj, e⟩
      have : j = i := by omega
      subst this
      exact (List.mem_filter.1 hj).2
  by_cases hk : t.kind = 1
  · have e : shardsL t n = shL t.cmd n := by unfold shardsL; rw [if_pos hk]
    rw [e]
    unfold shL
    split
    · unfold needL
      rw [Int.toNat_natCast]
      exact key _
    · simp
  · have e : shardsL t n = rangeI n := by unfold shardsL; rw [if_neg hk]
    rw [e]
    unfold rangeI
    have h1 : (List.range n).filter (fun _ => true) = List.range n := List.filter_eq_self.2 fun _ _ => rfl
    have := key fun _ => true
    rw [h1] at this
    exact this
def boxesOf (n : Nat) (R : List Tkt) : List (List Tkt) := (List.range n).map fun j : Nat => R.filter fun t => decide ((j : Int) ∈ shardsL t n)
theorem boxesOf_length (n : Nat) (R : List Tkt) : (boxesOf n R).length = n := by unfold boxesOf; rw [List.length_map, List.length_range]
theorem boxesOf_get {n : Nat} {R : List Tkt} {j : Nat} (h : j < n) : (boxesOf n R)[j]? = some (R.filter fun t => decide ((j : Int) ∈ shardsL t n)) := by
  unfold boxesOf; rw [List.getElem?_map, List.getElem?_range h]; rfl
theorem boxesOf_ext {n : Nat} {R : List Tkt} {b : List (List Tkt)} (hl : b.length = n) (h : ∀ j, j < n → b[j]? = some (R.filter fun t => decide ((j : Int) ∈ shardsL t n))) : b = boxesOf n R := by
  refine List.ext_getElem? fun j => ?_
  by_cases hj : j < n
  · rw [h j hj, boxesOf_get hj]
  · rw [List.getElem?_eq_none (by omega), List.getElem?_eq_none (by rw [boxesOf_length]; omega)]
structure RemI (n N : Nat) (R : List Tkt) : Prop where
  len : R.length ≤ N
  num : R.Pairwise fun a b => a.num < b.num
  rng : ∀ t ∈ R, 0 ≤ t.num ∧ t.num < N
  may : ∀ t ∈ R, t.mayB = true
  fit : ∀ t ∈ R, t.cmd.keys.length ≤ 1000 ∧ ∀ k ∈ t.cmd.keys, k.length ≤ 100000
theorem RemI.sub {n N : Nat} {R S : List Tkt} (h : RemI n N R) (hs : S.Sublist R) : RemI n N S :=
  ⟨Nat.le_trans hs.length_le h.len, h.num.sublist hs, fun t ht => h.rng t (hs.subset ht), fun t ht => h.may t (hs.subset ht), fun t ht => h.fit t (hs.subset ht)⟩
theorem RemI.nodup {n N : Nat} {R : List Tkt} (h : RemI n N R) : R.Nodup := h.num.imp fun hlt e => by rw [e] at hlt; omega
theorem RemI.inj {n N : Nat} {R : List Tkt} (h : RemI n N R) {a b : Tkt} (ha : a ∈ R) (hb : b ∈ R) (e : a.num = b.num) : a = b := by
  obtain ⟨i, hi, rfl⟩ := List.getElem_of_mem ha
  obtain ⟨j, hj, rfl⟩ := List.getElem_of_mem hb
  rcases Nat.lt_trichotomy i j with g | g | g
  · have := List.pairwise_iff_getElem.1 h.num i j hi hj g; omega
  · subst g; rfl
  · have := List.pairwise_iff_getElem.1 h.num j i hj hi g; omega
def queOf (n N : Nat) (R : List Tkt) : Que := ⟨N, boxesOf n R⟩
theorem whereL_boxes {n N : Nat} {R : List Tkt} (h : RemI n N R) {t : Tkt} (ht : t ∈ R) : whereL (boxesOf n R) t = shardsL t n := by
  rw [shardsL_filter t n]
  unfold whereL
  rw [boxesOf_length]
  congr 1
  refine List.filter_congr fun i hi => ?_
  have hi := List.mem_range.1 hi
  rw [boxesOf_get hi, Option.getD_some, Bool.eq_iff_iff, decide_eq_true_eq, decide_eq_true_eq, List.mem_filter, decide_eq_true_eq]
  exact ⟨fun h => h.2, fun h => ⟨ht, h⟩⟩
theorem boxB_sub {n N : Nat} {R : List Tkt} (h : RemI n N R) (h1 : 1 ≤ n) : ∀ (S : List Tkt) (last : Int), S.Sublist R → (∀ t ∈ S, last < t.num) → boxB (boxesOf n R) N last S = true
  | [], _, _, _ => rfl
  | t :: S, last, hs, hl => by
    have ht := hs.subset (.head _)
    have hS := (List.sublist_cons_self t S).trans hs
    have hp := (h.num.sublist hs)
    rw [List.pairwise_cons] at hp
    rw [boxB, boxB_sub h h1 S t.num hS hp.1, h.may t ht, whereL_boxes h ht, boxesOf_length]
    have := h.rng t ht
    have := hl t (.head _)
    simp [this, (h.rng t ht).2]
theorem queOf_may {n N : Nat} {R : List Tkt} (h : RemI n N R) (h1 : 1 ≤ n) (h4 : n ≤ 4) (hN : N ≤ 60) : (queOf n N R).may := by
  refine ⟨by show 1 ≤ (boxesOf n R).length; rw [boxesOf_length]; exact h1, by show (boxesOf n R).length ≤ 4; rw [boxesOf_length]; exact h4, by show (0 : Int) ≤ (N : Int); omega, by show (N : Int) ≤ _; omega, fun l hl => ?_⟩
  obtain ⟨j, hj, rfl⟩ := List.getElem_of_mem hl
  have hj2 : j < n := by rw [← boxesOf_length n R]; exact hj
  have e := boxesOf_get (R := R) hj2
  have e2 : (queOf n N R).bx[j] = R.filter fun t => decide ((j : Int) ∈ shardsL t n) := by
    have := List.getElem?_eq_getElem hj
    have e' : (queOf n N R).bx[j]? = (boxesOf n R)[j]? := rfl
    rw [e', e] at this
    exact (Option.some.inj this).symm
  rw [e2]
  refine ⟨by have := List.length_filter_le (fun t => decide ((j : Int) ∈ shardsL t n)) R; have := h.len; omega, ?_⟩
  exact boxB_sub h h1 _ _ List.filter_sublist fun t ht => by have := (h.rng t (List.mem_filter.1 ht).1).1; omega
theorem queOf_fit {n N : Nat} {R : List Tkt} (h : RemI n N R) (h4 : n ≤ 4) (hN : N ≤ 60) : qFit (queOf n N R).bx := by
  refine ⟨by show (boxesOf n R).length ≤ 20; rw [boxesOf_length]; omega, fun l hl => ?_⟩
  unfold queOf boxesOf at hl
  obtain ⟨j, hj, rfl⟩ := List.mem_map.1 hl
  refine ⟨?_, fun t ht => h.fit t (List.mem_filter.1 ht).1⟩
  have := List.length_filter_le (fun t => decide ((j : Int) ∈ shardsL t n)) R
  have := h.len
  omega
theorem putBx_get {t : Tkt} {js : List Int} {k : Nat} : ∀ (b : List (List Tkt)), (∀ j ∈ js, ∃ k : Nat, j = k) → js.Nodup → k < b.length → (putBx b t js)[k]? = some (b[k]?.getD [] ++ if (k : Int) ∈ js then [t] else []) := by
  induction js with
  | nil => intro b _ _ hk; rw [if_neg (by simp), List.append_nil, List.getElem?_eq_getElem hk]; exact List.getElem?_eq_getElem hk
  | cons j js ih =>
    intro b hj hn hk
    have e : putBx b t (j :: js) = putBx (b.set j.toNat (b[j.toNat]?.getD [] ++ [t])) t js := rfl
    obtain ⟨z, rfl⟩ := hj j (.head _)
    rw [e, ih _ (fun j hm => hj j (.tail _ hm)) (List.nodup_cons.1 hn).2 (by rw [List.length_set]; exact hk), Int.toNat_natCast]
    by_cases hz : z = k
    · subst hz
      rw [if_neg (List.nodup_cons.1 hn).1, if_pos (.head _), List.getElem?_set_self hk]
      simp
    · rw [List.getElem?_set_ne hz]
      congr 2
      by_cases hm : (k : Int) ∈ js
      · rw [if_pos hm, if_pos (.tail _ hm)]
      · rw [if_neg hm, if_neg]
        intro h
        rcases List.mem_cons.1 h with h | h
        · exact hz (by omega)
        · exact hm h
theorem takeBx_get2 {js : List Int} {k : Nat} : ∀ (b : List (List Tkt)), (∀ j ∈ js, ∃ k : Nat, j = k) → js.Nodup → k < b.length → (takeBx b js)[k]? = some (if (k : Int) ∈ js then (b[k]?.getD []).drop 1 else b[k]?.getD []) := by
  induction js with
  | nil => intro b _ _ hk; rw [if_neg (by simp), List.getElem?_eq_getElem hk]; exact List.getElem?_eq_getElem hk
  | cons j js ih =>
    intro b hj hn hk
    have e : takeBx b (j :: js) = takeBx (b.set j.toNat ((b[j.toNat]?.getD []).drop 1)) js := rfl
    obtain ⟨z, rfl⟩ := hj j (.head _)
    rw [e, ih _ (fun j hm => hj j (.tail _ hm)) (List.nodup_cons.1 hn).2 (by rw [List.length_set]; exact hk), Int.toNat_natCast]
    by_cases hz : z = k
    · subst hz
      rw [if_neg (List.nodup_cons.1 hn).1, if_pos (.head _), List.getElem?_set_self hk]
      simp
    · rw [List.getElem?_set_ne hz]
      by_cases hm : (k : Int) ∈ js
      · rw [if_pos hm, if_pos (.tail _ hm)]
      · rw [if_neg hm, if_neg]
        intro h
        rcases List.mem_cons.1 h with h | h
        · exact hz (by omega)
        · exact hm h
theorem at_shards (t : Tkt) (m : Int) (n : Nat) : shardsL (t.at_ m) n = shardsL t n := rfl
theorem at_may (t : Tkt) (m : Int) : (t.at_ m).mayB = t.mayB := rfl
theorem queOf_put {n N : Nat} {R : List Tkt} (h : RemI n N R) (h1 : 1 ≤ n) (h4 : n ≤ 4) (hN : N < 60) {t : Tkt} (ht : t.mayB = true) : putR (queOf n N R) t = (queOf n (N + 1) (R ++ [t.at_ N]), (N : Int), 0) := by
  have hm := queOf_may h h1 h4 (by omega)
  have hbl : (queOf n N R).bx.length = n := boxesOf_length n R
  have hf : fullB (queOf n N R) t = false := by
    unfold fullB
    rw [List.any_eq_false]
    intro j hj
    rw [hbl] at hj
    obtain ⟨k, rfl, hk⟩ := shardsL_lt hj
    have e : (queOf n N R).bx[(k : Int).toNat]?.getD [] = R.filter fun t => decide ((k : Int) ∈ shardsL t n) := by rw [Int.toNat_natCast]; show ((boxesOf n R)[k]?).getD [] = _; rw [boxesOf_get hk]; rfl
    rw [e]
    have := List.length_filter_le (fun t => decide ((k : Int) ∈ shardsL t n)) R
    have := h.len
    simp; omega
  unfold putR
  rw [if_neg (not_not_intro hm), if_neg (by rw [ht]; decide), if_neg (by rw [hf]; show ¬ ((N : Int) = 1099511627776 ∨ _); simp; omega), hbl]
  have hb : putBx (queOf n N R).bx (t.at_ (queOf n N R).next) (shardsL t n) = boxesOf n (R ++ [t.at_ N]) := by
    refine boxesOf_ext (by rw [putBx_length]; exact hbl) fun j hj => ?_
    rw [putBx_get _ (fun j hj => (shardsL_lt hj).imp fun _ h => h.1) (shardsL_nodup t n) (by rw [hbl]; exact hj)]
    have e : (queOf n N R).bx[j]?.getD [] = R.filter fun t => decide ((j : Int) ∈ shardsL t n) := by show ((boxesOf n R)[j]?).getD [] = _; rw [boxesOf_get hj]; rfl
    rw [e, List.filter_append]
    congr 2
    by_cases hm : (j : Int) ∈ shardsL t n
    · rw [if_pos hm, List.filter_cons, if_pos (by rw [at_shards]; exact decide_eq_true hm)]; rfl
    · rw [if_neg hm, List.filter_cons, if_neg (by rw [at_shards]; simpa using hm)]; rfl
  rw [hb]
  show ((⟨(N : Int) + 1, _⟩ : Que), (N : Int), (0 : Int)) = _
  unfold queOf
  rw [show ((N + 1 : Nat) : Int) = (N : Int) + 1 by omega]
theorem RemI.snoc {n N : Nat} {R : List Tkt} (h : RemI n N R) {t : Tkt} (ht : t.mayB = true) (hf : t.cmd.keys.length ≤ 1000 ∧ ∀ k ∈ t.cmd.keys, k.length ≤ 100000) : RemI n (N + 1) (R ++ [t.at_ N]) := by
  refine ⟨by rw [List.length_append]; have := h.len; simp only [List.length_cons, List.length_nil]; omega, ?_, ?_, ?_, ?_⟩
  · rw [List.pairwise_append]
    refine ⟨h.num, by simp, fun a ha b hb => ?_⟩
    rw [List.mem_singleton.1 hb]
    exact (h.rng a ha).2
  all_goals
    intro u hu
    rcases List.mem_append.1 hu with hu | hu
  · have := h.rng u hu; omega
  · rw [List.mem_singleton.1 hu]; show (0 : Int) ≤ (N : Int) ∧ (N : Int) < ((N + 1 : Nat) : Int); omega
  · exact h.may u hu
  · rw [List.mem_singleton.1 hu]; exact ht
  · exact h.fit u hu
  · rw [List.mem_singleton.1 hu]; exact hf
theorem queOf_bad {n N : Nat} {R : List Tkt} (h : RemI n N R) (h1 : 1 ≤ n) (h4 : n ≤ 4) (hN : N ≤ 60) {t : Tkt} (ht : t.mayB = false) : putR (queOf n N R) t = (que0, 0, 8) := by
  unfold putR
  rw [if_neg (not_not_intro (queOf_may h h1 h4 hN)), if_pos ht]
theorem shardsL_ne {t : Tkt} (ht : t.mayB = true) {n : Nat} (h1 : 1 ≤ n) (h4 : n ≤ 4) : shardsL t n ≠ [] := by
  intro e
  unfold shardsL at e
  split at e
  · rename_i hk
    unfold Tkt.mayB at ht
    rw [if_pos hk, Bool.and_eq_true] at ht
    have hE : shE t.cmd n = 0 := shE_ok.2 ⟨ht.1, by omega, by omega⟩
    by_cases h11 : t.cmd.kind = 11
    · have := (mem_shL hE (z := 0)).2 ⟨0, by omega, by unfold needB; simp [h11], rfl⟩
      rw [e] at this; cases this
    · obtain ⟨_, ⟨h2, _⟩, _⟩ := cmdB_iff.1 ht.1
      unfold loK at h2
      rw [if_neg h11] at h2
      have hl : 0 < t.cmd.keys.length := by omega
      have := key_in hE (List.getElem_mem hl)
      rw [e] at this; cases this
  · have := rangeI_len n
    rw [e] at this
    simp at this; omega
theorem filter_ne_self {R : List Tkt} {t : Tkt} {S : List Tkt} (hn : (t :: S).Nodup) : (t :: S).filter (fun x => decide (x ≠ t)) = S := by
  rw [List.filter_cons, if_neg (by simp)]
  exact List.filter_eq_self.2 fun x hx => by
    rw [decide_eq_true_eq]; intro e; subst e; exact (List.nodup_cons.1 hn).1 hx
/-- Who is taken: the first of each of its boxes. -/
theorem queOf_take {n N : Nat} {R : List Tkt} (h : RemI n N R) (h1 : 1 ≤ n) (h4 : n ≤ 4) (hN : N ≤ 60) {k : Nat} (hk : k < n) (hr : readyB (boxesOf n R) k = true) :
    ∃ t ∈ R, takeR (queOf n N R) k = (queOf n N (R.filter fun x => decide (x ≠ t)), t, 0) ∧ ∀ u ∈ R, u.num < t.num → ∀ j ∈ shardsL u n, j ∉ shardsL t n := by
  have hm := queOf_may h h1 h4 hN
  have hbl : (queOf n N R).bx.length = n := boxesOf_length n R
  have hr0 := hr
  unfold readyB at hr
  rw [boxesOf_get hk, Option.getD_some, boxesOf_length] at hr
  have hg : (queOf n N R).bx[k]?.getD [] = R.filter fun t => decide ((k : Int) ∈ shardsL t n) := by show ((boxesOf n R)[k]?).getD [] = _; rw [boxesOf_get hk]; rfl
  cases hF : R.filter fun t => decide ((k : Int) ∈ shardsL t n) with
  | nil => rw [hF] at hr; cases hr
  | cons t rest =>
  rw [hF] at hr hg
  simp only at hr
  rw [Bool.not_eq_true', List.any_eq_false] at hr
  have htR : t ∈ R := (List.mem_filter.1 (show t ∈ R.filter fun t => decide ((k : Int) ∈ shardsL t n) by rw [hF]; exact .head _)).1
  -- the head of each of its boxes
  have hhead : ∀ j : Nat, j < n → (j : Int) ∈ shardsL t n → ∃ S, (R.filter fun u => decide ((j : Int) ∈ shardsL u n)) = t :: S := fun j hj hjt => by
    have h2 := hr j hjt
    have htm : t ∈ R.filter fun u => decide ((j : Int) ∈ shardsL u n) := List.mem_filter.2 ⟨htR, decide_eq_true hjt⟩
    cases hG : R.filter fun u => decide ((j : Int) ∈ shardsL u n) with
    | nil => rw [hG] at htm; cases htm
    | cons x S =>
      have hx : headN (boxesOf n R) j = x.num := by unfold headN; rw [Int.toNat_natCast, boxesOf_get hj, Option.getD_some, hG]
      rw [hx] at h2
      have h3 : x.num = t.num := by simpa using h2
      have hxR : x ∈ R := (List.mem_filter.1 (show x ∈ R.filter fun u => decide ((j : Int) ∈ shardsL u n) by rw [hG]; exact .head _)).1
      rw [h.inj hxR htR h3]
      exact ⟨S, rfl⟩
  refine ⟨t, htR, ?_, fun u hu hlt j hj hjt => ?_⟩
  · unfold takeR
    rw [if_neg (not_not_intro hm), if_neg (by rw [hbl]; omega), Int.toNat_natCast, if_neg (by show ¬ readyB (boxesOf n R) k = false; rw [hr0]; decide), hg]
    simp only
    rw [hbl]
    have hb : takeBx (queOf n N R).bx (shardsL t n) = boxesOf n (R.filter fun x => decide (x ≠ t)) := by
      refine boxesOf_ext (by rw [takeBx_length]; exact hbl) fun j hj => ?_
      rw [takeBx_get2 _ (fun j hj => (shardsL_lt hj).imp fun _ h => h.1) (shardsL_nodup t n) (by rw [hbl]; exact hj)]
      have e : (queOf n N R).bx[j]?.getD [] = R.filter fun t => decide ((j : Int) ∈ shardsL t n) := by show ((boxesOf n R)[j]?).getD [] = _; rw [boxesOf_get hj]; rfl
      rw [e]
      congr 1
      rw [List.filter_filter]
      have hsw : (R.filter fun a => decide ((j : Int) ∈ shardsL a n) && decide (a ≠ t)) = (R.filter fun u => decide ((j : Int) ∈ shardsL u n)).filter fun x => decide (x ≠ t) := by
        rw [List.filter_filter]
        exact List.filter_congr fun x _ => Bool.and_comm _ _
      rw [hsw]
      by_cases hjt : (j : Int) ∈ shardsL t n
      · obtain ⟨S, hS⟩ := hhead j hj hjt
        rw [if_pos hjt, hS, filter_ne_self (R := R) (by rw [← hS]; exact h.nodup.filter _)]
        rfl
      · rw [if_neg hjt]
        symm
        exact List.filter_eq_self.2 fun x hx => by
          rw [decide_eq_true_eq]; intro e; subst e
          exact hjt (of_decide_eq_true (List.mem_filter.1 hx).2)
    rw [hb]
    rfl
  · obtain ⟨z, rfl, hz⟩ := shardsL_lt hj
    obtain ⟨S, hS⟩ := hhead z hz hjt
    have hum : u ∈ R.filter fun u => decide ((z : Int) ∈ shardsL u n) := List.mem_filter.2 ⟨hu, decide_eq_true hj⟩
    have hp := h.num.sublist (List.filter_sublist (p := fun u => decide ((z : Int) ∈ shardsL u n)) (l := R))
    rw [hS] at hum hp
    rcases List.mem_cons.1 hum with rfl | hum
    · omega
    · have := (List.pairwise_cons.1 hp).1 u hum; omega
theorem mem_readyN2 {b : List (List Tkt)} {n : Nat} {j : Int} : j ∈ readyN b n ↔ ∃ k : Nat, j = k ∧ k < n ∧ readyB b k = true := by
  unfold readyN
  rw [List.mem_map]
  constructor
  · rintro ⟨k, hk, rfl⟩
    rw [List.mem_filter, List.mem_range] at hk
    exact ⟨k, rfl, hk.1, hk.2⟩
  · rintro ⟨k, rfl, h, hr⟩
    exact ⟨k, by rw [List.mem_filter, List.mem_range]; exact ⟨h, hr⟩, rfl⟩
theorem queOf_ready {n N : Nat} {R : List Tkt} (h : RemI n N R) (h1 : 1 ≤ n) (h4 : n ≤ 4) (hR : R ≠ []) : readyN (boxesOf n R) n ≠ [] := by
  cases R with
  | nil => exact absurd rfl hR
  | cons t R =>
  obtain ⟨j, hj⟩ := List.exists_mem_of_ne_nil _ (shardsL_ne (h.may t (.head _)) h1 h4)
  obtain ⟨k, rfl, hk⟩ := shardsL_lt hj
  have hhead : ∀ j : Nat, j < n → (j : Int) ∈ shardsL t n → (boxesOf n (t :: R))[j]?.getD [] = t :: R.filter fun u => decide ((j : Int) ∈ shardsL u n) := fun j hj hjt => by
    rw [boxesOf_get hj, Option.getD_some, List.filter_cons, if_pos (decide_eq_true hjt)]
  have hrk : readyB (boxesOf n (t :: R)) k = true := by
    unfold readyB
    rw [hhead k hk hj, boxesOf_length]
    simp only
    rw [Bool.not_eq_true', List.any_eq_false]
    intro i hi
    obtain ⟨z, rfl, hz⟩ := shardsL_lt hi
    have : headN (boxesOf n (t :: R)) z = t.num := by unfold headN; rw [Int.toNat_natCast, hhead z hz hi]
    rw [this]; simp
  intro e
  have := (mem_readyN2 (b := boxesOf n (t :: R)) (n := n) (j := (k : Int))).2 ⟨k, rfl, hk, hrk⟩
  rw [e] at this; cases this
theorem queOf_nil (n : Nat) : readyN (boxesOf n []) n = [] := by
  unfold readyN
  rw [List.map_eq_nil_iff, List.filter_eq_nil_iff]
  intro j hj
  unfold readyB
  rw [boxesOf_get (List.mem_range.1 hj), Option.getD_some, List.filter_nil]
  simp
end Go.Proofs.Ytkmkhiipiflelaa
