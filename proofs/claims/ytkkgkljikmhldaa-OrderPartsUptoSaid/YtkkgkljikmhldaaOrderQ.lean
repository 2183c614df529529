import Derived.Test.YtkkgkljikmhldaaOrderL
set_option linter.unusedSimpArgs false
set_option linter.unusedVariables false
set_option maxRecDepth 100000
namespace Go.Proofs.Ytkkgkljikmhldaa
open Go Go.Proofs Go.Proofs.PI
/-! Plain facts for OrderParts. -/
theorem mem_needL {c : Cmd} {n : Int} {m : Nat} {z : Int} : z ∈ needL c n m ↔ ∃ i : Nat, i < m ∧ needB c n i = true ∧ (i : Int) = z := by
  simp only [needL, List.mem_map, List.mem_filter, List.mem_range]
  exact ⟨fun ⟨i, ⟨h1, h2⟩, h3⟩ => ⟨i, h1, h2, h3⟩, fun ⟨i, h1, h2, h3⟩ => ⟨i, ⟨h1, h2⟩, h3⟩⟩
theorem needL_sorted (c : Cmd) (n : Int) : ∀ m : Nat, (needL c n m).Pairwise (· < ·)
  | 0 => by simp [needL]
  | m + 1 => by
    rw [needL_step, List.pairwise_append]
    refine ⟨needL_sorted c n m, by split <;> simp, fun a ha b hb => ?_⟩
    obtain ⟨i, h1, _, rfl⟩ := mem_needL.1 ha
    split at hb
    · simp at hb; subst hb; omega
    · simp at hb
theorem cmdB_iff {c : Cmd} : cmdB c = true ↔ (1 ≤ c.kind ∧ c.kind ≤ 11 ∧ 0 ≤ c.ten ∧ c.ten < 4) ∧ (loK c.kind ≤ c.keys.length ∧ c.keys.length ≤ hiK c.kind) ∧ (∀ k ∈ c.keys, 1 ≤ k.length ∧ k.length ≤ 32) ∧ c.keys.Nodup ∧ restB c = true := by
  simp only [cmdB, keysB, kGo_all, Bool.and_eq_true, decide_eq_true_eq]
  exact ⟨fun ⟨⟨h1, h2, h3, h4⟩, h5⟩ => ⟨h1, h2, h3, h4, h5⟩, fun ⟨h1, h2, h3, h4, h5⟩ => ⟨⟨h1, h2, h3, h4⟩, h5⟩⟩
theorem cmdB_short {c : Cmd} (h : cmdB c = true) : c.keys.length ≤ 8 ∧ ∀ k ∈ c.keys, k.length ≤ 32 := by
  obtain ⟨_, h2, h3, _⟩ := cmdB_iff.1 h
  refine ⟨?_, fun k hk => (h3 k hk).2⟩
  have := h2.2
  unfold hiK at this
  split at this
  · omega
  · split at this <;> omega
theorem cmdB_piece {c : Cmd} {l : List (List UInt8)} (h : cmdB c = true) (hs : l.Sublist c.keys) (hne : c.kind ≠ 11 → l ≠ []) : cmdB (c.with l) = true := by
  obtain ⟨h1, h2, h3, h4, h5⟩ := cmdB_iff.1 h
  refine cmdB_iff.2 ⟨h1, ?_, fun k hk => h3 k (hs.subset hk), h4.sublist hs, h5⟩
  show loK c.kind ≤ l.length ∧ (l.length : Int) ≤ hiK c.kind
  have := hs.length_le
  refine ⟨?_, by omega⟩
  unfold loK
  split
  · omega
  · rename_i hk
    have := List.length_pos_iff.2 (hne hk)
    omega
theorem hstep_nn (h : Int) (b : UInt8) : 0 ≤ hstep h b := by unfold hstep; rw [IntKind.wrap_u64]; omega
theorem foldl_nn : ∀ (l : List UInt8) (h : Int), 0 ≤ h → 0 ≤ l.foldl hstep h
  | [], h, hh => hh
  | b :: l, h, hh => foldl_nn l _ (hstep_nn h b)
theorem hash_nn (s : List UInt8) : 0 ≤ hash s := foldl_nn s _ (by decide)
theorem shard_range {c : Cmd} (h : cmdB c = true) {k : List UInt8} (hk : k ∈ c.keys) {n : Int} (h1 : 1 ≤ n) (h4 : n ≤ 4) : ∃ i : Nat, i < n.toNat ∧ (shardL c.ten k n).1 = i := by
  obtain ⟨g1, g2, g3, _⟩ := cmdB_iff.1 h
  have gk := g3 k hk
  have hkb : keyB k = true := by unfold keyB; rw [decide_eq_true_eq]; exact gk
  unfold shardL
  rw [if_neg (by omega), if_neg (by simp [hkb]), if_neg (by omega)]
  have hn : IntKind.u64.wrap n = n := by rw [IntKind.wrap_u64]; omega
  have q0 := Int.tmod_nonneg n (hash_nn (tbyte c.ten :: k))
  have q4 := Int.tmod_lt_of_pos (hash (tbyte c.ten :: k)) (show 0 < n by omega)
  have hw : IntKind.i64.wrap ((hash (tbyte c.ten :: k)).tmod n) = (hash (tbyte c.ten :: k)).tmod n := i64_id _ (by omega) (by omega)
  rw [hn]
  simp only [hw]
  exact ⟨((hash (tbyte c.ten :: k)).tmod n).toNat, by omega, by omega⟩
theorem shE_ok {c : Cmd} {n : Int} : shE c n = 0 ↔ cmdB c = true ∧ 1 ≤ n ∧ n ≤ 4 := by
  unfold shE
  cases cmdB c
  · simp
  · simp only [Bool.true_eq_false, if_false, true_and]
    split <;> simp <;> omega
theorem mem_shL {c : Cmd} {n : Int} (h : shE c n = 0) {z : Int} : z ∈ shL c n ↔ ∃ i : Nat, i < n.toNat ∧ needB c n i = true ∧ (i : Int) = z := by
  rw [shL, if_pos h]; exact mem_needL
theorem sum_parts {κ : Type} (f : κ → Int) : ∀ (ks : List κ) (sl : List Int), sl.Nodup → (∀ k ∈ ks, f k ∈ sl) → (sl.map fun s => (ks.filter fun k => decide (f k = s)).length).sum = ks.length
  | [], sl, _, _ => by
    simp only [List.filter_nil, List.length_nil]
    induction sl with
    | nil => rfl
    | cons a l ih => simp_all
  | k :: ks, sl, hn, hm => by
    have ih := sum_parts f ks sl hn (fun x hx => hm x (.tail _ hx))
    have h1 : ∀ l : List Int, (l.map fun s => ((k :: ks).filter fun k => decide (f k = s)).length).sum = (l.map fun s => (ks.filter fun k => decide (f k = s)).length).sum + l.count (f k) := by
      intro l
      induction l with
      | nil => rfl
      | cons a l ih2 =>
        simp only [List.map_cons, List.sum_cons, List.count_cons]
        rw [ih2]
        by_cases h : f k = a
        · simp [List.filter_cons, h]; omega
        · rw [List.filter_cons, if_neg (by simp [h]), if_neg (by simp; exact fun e => h e.symm)]; omega
    rw [h1, ih, List.length_cons, hn.count, if_pos (hm k (.head _))]
theorem key_in {c : Cmd} {n : Int} (h : shE c n = 0) {k : List UInt8} (hk : k ∈ c.keys) : (shardL c.ten k n).1 ∈ shL c n := by
  obtain ⟨h1, h2, h3⟩ := shE_ok.1 h
  obtain ⟨i, hi, he⟩ := shard_range h1 hk h2 h3
  rw [mem_shL h]
  refine ⟨i, hi, ?_, he.symm⟩
  unfold needB
  rw [Bool.or_eq_true, List.any_eq_true]
  exact .inr ⟨k, hk, by simp [he]⟩
theorem piece_ne {c : Cmd} {n sh : Int} (h : shE c n = 0) (hm : sh ∈ shL c n) (h11 : c.kind ≠ 11) : pieceK c sh n c.keys ≠ [] := by
  obtain ⟨i, _, hi, rfl⟩ := (mem_shL h).1 hm
  unfold needB at hi
  rw [Bool.or_eq_true, List.any_eq_true] at hi
  rcases hi with hi | ⟨k, hk, he⟩
  · exact absurd (of_decide_eq_true hi) h11
  · exact List.ne_nil_of_mem (List.mem_filter.2 ⟨hk, he⟩)
theorem keys11 {c : Cmd} (h : cmdB c = true) (h11 : c.kind = 11) : c.keys = [] := by
  obtain ⟨_, h2, _⟩ := cmdB_iff.1 h
  rw [h11] at h2
  exact List.eq_nil_of_length_eq_zero (by have : (c.keys.length : Int) ≤ 0 := h2.2; omega)
theorem sorted_single {l : List Int} {z : Int} (hs : l.Pairwise (· < ·)) (hm : ∀ y, y ∈ l ↔ y = z) : l = [z] := by
  cases l with
  | nil => exact absurd ((hm z).2 rfl) (by simp)
  | cons a l =>
    have ha : a = z := (hm a).1 (.head _)
    cases l with
    | nil => rw [ha]
    | cons b l =>
      have hb : b = z := (hm b).1 (.tail _ (.head _))
      have := (List.pairwise_cons.1 hs).1 b (.head _)
      omega
theorem shL_sorted (c : Cmd) (n : Int) : (shL c n).Pairwise (· < ·) := by
  unfold shL; split
  · exact needL_sorted _ _ _
  · simp
theorem part_facts {c : Cmd} {n sh : Int} (h : shE c n = 0) (hm : sh ∈ shL c n) : partE c sh n = 0 ∧ partL c sh n = c.with (pieceK c sh n c.keys) ∧ cmdB (partL c sh n) = true ∧ shE (partL c sh n) n = 0 ∧
    (c.kind ≠ 11 → shL (partL c sh n) n = [sh]) ∧ ((shL c n).length = 1 → partL c sh n = c) := by
  have hE : partE c sh n = 0 := by unfold partE; rw [if_neg (by simp [h]), if_pos hm]
  have hL : partL c sh n = c.with (pieceK c sh n c.keys) := if_pos hE
  obtain ⟨h1, h2, h3⟩ := shE_ok.1 h
  have hB : cmdB (partL c sh n) = true := by rw [hL]; exact cmdB_piece h1 (List.filter_sublist ..) (piece_ne h hm)
  have hS : shE (partL c sh n) n = 0 := shE_ok.2 ⟨hB, h2, h3⟩
  refine ⟨hE, hL, hB, hS, fun h11 => ?_, fun hl => ?_⟩
  · refine sorted_single (shL_sorted _ _) fun y => ?_
    rw [mem_shL hS, hL]
    obtain ⟨i0, hi0, _, e0⟩ := (mem_shL h).1 hm
    constructor
    · rintro ⟨i, _, hi, rfl⟩
      unfold needB at hi
      rw [Bool.or_eq_true, List.any_eq_true] at hi
      rcases hi with hi | ⟨k, hk, he⟩
      · exact absurd (of_decide_eq_true hi) h11
      · have h5 := (List.mem_filter.1 hk).2
        have he' : (shardL c.ten k n).1 = i := of_decide_eq_true he
        have h5' : (shardL c.ten k n).1 = sh := of_decide_eq_true h5
        omega
    · rintro rfl
      refine ⟨i0, hi0, ?_, e0⟩
      obtain ⟨k, hk⟩ := List.exists_mem_of_ne_nil _ (piece_ne h hm h11)
      unfold needB
      rw [Bool.or_eq_true, List.any_eq_true]
      have h5 : (shardL c.ten k n).1 = y := of_decide_eq_true (List.mem_filter.1 hk).2
      exact .inr ⟨k, hk, by rw [decide_eq_true_eq]; show (shardL c.ten k n).1 = _; rw [h5, e0]⟩
  · rw [hL]
    have hk : pieceK c sh n c.keys = c.keys := by
      unfold pieceK
      rw [List.filter_eq_self]
      intro k hk
      have h5 := key_in h hk
      obtain ⟨z, hz⟩ := List.length_eq_one_iff.1 hl
      rw [hz] at hm h5
      simp only [List.mem_singleton] at hm h5
      rw [decide_eq_true_eq, h5, hm]
    rw [hk]; rfl
theorem parts_sum {c : Cmd} {n : Int} (h : shE c n = 0) : ((shL c n).map fun sh => (partL c sh n).keys.length).sum = c.keys.length := by
  have := sum_parts (fun k => (shardL c.ten k n).1) c.keys (shL c n) ((shL_sorted c n).imp (fun h => by omega)) (fun k hk => key_in h hk)
  rw [← this]
  congr 1
  apply List.map_congr_left
  intro sh hm
  rw [(part_facts h hm).2.1]; rfl
end Go.Proofs.Ytkkgkljikmhldaa
