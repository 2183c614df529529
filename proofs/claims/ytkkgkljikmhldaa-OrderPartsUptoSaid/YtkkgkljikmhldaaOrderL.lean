import Derived.Test.YtkkgkljikmhldaaOrderI
set_option linter.unusedSimpArgs false
set_option linter.unusedVariables false
set_option maxRecDepth 100000
set_option maxHeartbeats 2000000
namespace Go.Proofs.Ytkkgkljikmhldaa
open Go Go.Proofs Go.Proofs.PI
theorem inp_cmd {n : Nat} {a : AV} (h : InpPV T (n + 4) 26 a) : ∃ c : Cmd, a = c.av ∧ c.keys.length ≤ 140737488355328 := by
  obtain ⟨l, rfl, h'⟩ := h.agg tk26
  obtain ⟨parts, rfl, hl, hp⟩ := InpP.struct tk26 h'
  obtain ⟨p0, p1, p2, p3, p4, p5, p6, p7, rfl⟩ := len8 hl
  obtain ⟨s0, rfl, -⟩ := InpP.int tk5 (hp 0 _ _ rfl rfl)
  obtain ⟨s1, rfl, -⟩ := InpP.int tk3 (hp 1 _ _ rfl rfl)
  obtain ⟨s2, rfl, -, -, hlen⟩ := InpP.slice (E := Enc.str) (Pr := fun _ => True) tk22 (fun x hx => by obtain ⟨s, rfl, -⟩ := InpP.str tk9 hx; exact ⟨s, rfl, trivial⟩) (hp 2 _ _ rfl rfl)
  obtain ⟨s3, rfl, -⟩ := InpP.str tk9 (hp 3 _ _ rfl rfl)
  obtain ⟨s4, rfl, -⟩ := InpP.int tk23 (hp 4 _ _ rfl rfl)
  obtain ⟨s5, rfl, -⟩ := InpP.int tk3 (hp 5 _ _ rfl rfl)
  obtain ⟨s6, rfl, -⟩ := InpP.int tk24 (hp 6 _ _ rfl rfl)
  obtain ⟨s7, rfl, -⟩ := InpP.int tk24 (hp 7 _ _ rfl rfl)
  exact ⟨⟨s0, s1, s2, s3, s4, s5, s6, s7⟩, rfl, by have : s2.length * 16 ≤ reachBytes := hlen _ td9; unfold reachBytes at this; show s2.length ≤ _; omega⟩
/-- A command whose keys are v. -/
def Cmd.avv (c : Cmd) (v : AV) : AV := .agg [.int .u8 c.kind, .int .i64 c.ten, v, .str c.val, .int .u32 c.flags, .int .i64 c.for_, .int .u64 c.uniq, .int .u64 c.by_]
theorem Cmd.lend {c : Cmd} {m : Nat} {H : Heap} {v : AV} (h : OwnE Enc.str m H v c.keys) : Thaw 0 H (c.avv v) c.av :=
  Thaw.agg_row ⟨.int _ _, .int _ _, (h.thaw (by decide)).mono (Nat.zero_le _), .str _, .int _ _, .int _ _, .int _ _, .int _ _, trivial⟩
theorem own_loose {α : Type} {E : Enc α} {m : Nat} {H : Heap} {v : AV} {xs : List α} (h : OwnE E m H v xs) : v.loose = true := by
  rcases h with ⟨rfl, _⟩ | ⟨b, n, st, rest, rfl, _⟩ <;> rfl
theorem str_loose (xs : List (List UInt8)) : ∀ a ∈ Enc.str.row xs, a.loose = true := fun a ha => by
  obtain ⟨x, _, hx⟩ := List.mem_flatMap.1 ha
  simp only [str_cells, List.mem_singleton] at hx; subst hx; rfl
theorem int_loose (xs : List Int) : ∀ a ∈ (Enc.int .i64).row xs, a.loose = true := fun a ha => by
  obtain ⟨x, _, hx⟩ := List.mem_flatMap.1 ha
  simp only [int_cells, List.mem_singleton] at hx; subst hx; rfl
theorem name_loose (xs : List (Int × List UInt8)) : ∀ a ∈ nameE.row xs, a.loose = true := fun a ha => by
  obtain ⟨x, _, hx⟩ := List.mem_flatMap.1 ha
  simp only [nameE_cells, List.mem_cons, List.not_mem_nil, or_false] at hx; rcases hx with rfl | rfl <;> rfl
theorem Nofz.tup2 {a b : AV} (ha : Nofz a) (hb : Nofz b) : Nofz (.tup [a, b]) := .tup _ (Nofz.row fun x hx => by
  simp only [List.mem_cons, List.not_mem_nil, or_false] at hx; rcases hx with rfl | rfl <;> assumption)
theorem names_lent (c : Cmd) (hn : c.keys.length ≤ 1000) {m : Nat} {H : Heap} {v : AV} (h : OwnE Enc.str m H v c.keys) : WC Try.prog 12 [c.avv v] H fun r H' => r = .tup [nameE.lst (if cmdB c then nameL c c.keys else []), .int .i64 (ordE c)] ∧ H' = H := by
  refine WC_froze (Q := fun r => r = _) ?_
  refine (WC_lend (Q := fun r I => ∃ v, r = .tup [v, .int .i64 (ordE c)] ∧ OwnE nameE H.shut.length I v (if cmdB c then nameL c c.keys else []) ∧ Keep none H.shut I) (args := [c.avv v]) (args' := [c.av]) ⟨Cmd.lend h, trivial⟩ ((names_own c hn _).mono ?_)).mono ?_
  · rintro r I ⟨w, rfl, o, k⟩
    exact ⟨Nofz.tup2 (.cell _ (own_loose o)) (.cell _ rfl), w, rfl, o, k⟩
  · rintro r H' ⟨I, ⟨w, rfl, o, k⟩, rfl⟩
    have o' : OwnE nameE H.length (H.back I) w _ := Own.back o (name_loose _)
    exact ⟨_, Thaw.tup_row (l' := [_, _]) ⟨o'.thaw (by decide), .int _ _, trivial⟩, back_keep _ _, rfl⟩
theorem shards_lent (c : Cmd) (n : Int) (hn : c.keys.length ≤ 1000) (hks : ∀ k ∈ c.keys, k.length ≤ 100000) {m : Nat} {H : Heap} {v : AV} (h : OwnE Enc.str m H v c.keys) : WC Try.prog 7 [c.avv v, .int .i64 n] H fun r H' => r = .tup [(Enc.int .i64).lst (shL c n), .int .i64 (shE c n)] ∧ H' = H := by
  refine WC_froze (Q := fun r => r = _) ?_
  refine (WC_lend (Q := fun r I => ∃ v, r = .tup [v, .int .i64 (shE c n)] ∧ OwnE (Enc.int .i64) H.shut.length I v (shL c n) ∧ Keep none H.shut I) (args := [c.avv v, .int .i64 n]) (args' := [c.av, .int .i64 n]) ⟨Cmd.lend h, .int _ _, trivial⟩ ((shards_own c n hn hks _).mono ?_)).mono ?_
  · rintro r I ⟨w, rfl, o, k⟩
    exact ⟨Nofz.tup2 (.cell _ (own_loose o)) (.cell _ rfl), w, rfl, o, k⟩
  · rintro r H' ⟨I, ⟨w, rfl, o, k⟩, rfl⟩
    have o' : OwnE (Enc.int .i64) H.length (H.back I) w _ := Own.back o (int_loose _)
    exact ⟨_, Thaw.tup_row (l' := [_, _]) ⟨o'.thaw (by decide), .int _ _, trivial⟩, back_keep _ _, rfl⟩
theorem part_lent (c : Cmd) (sh n : Int) (hn : c.keys.length ≤ 1000) (hks : ∀ k ∈ c.keys, k.length ≤ 100000) {m : Nat} {H : Heap} {v : AV} (h : OwnE Enc.str m H v c.keys) : WC Try.prog 9 [c.avv v, .int .i64 sh, .int .i64 n] H fun r H' => ∃ w, r = .tup [(partL c sh n).avv w, .int .i64 (partE c sh n)] ∧ OwnE Enc.str H.length H' w (partL c sh n).keys ∧ Keep none H H' := by
  refine (WC_lend (Q := fun r I => ∃ a, r = .tup [a, .int .i64 (partE c sh n)] ∧ OwnC H.shut.length I a (partL c sh n) ∧ Keep none H.shut I) (args := [c.avv v, .int .i64 sh, .int .i64 n]) (args' := [c.av, .int .i64 sh, .int .i64 n]) ⟨Cmd.lend h, .int _ _, .int _ _, trivial⟩ ((part_own c sh n hn hks _).mono ?_)).mono ?_
  · rintro r I ⟨a, rfl, ⟨w, rfl, o⟩, k⟩
    refine ⟨Nofz.tup2 (.agg _ (Nofz.row fun x hx => ?_)) (.cell _ rfl), _, rfl, ⟨w, rfl, o⟩, k⟩
    have := (own_loose o)
    simp only [List.mem_cons, List.not_mem_nil, or_false] at hx
    rcases hx with rfl | rfl | rfl | rfl | rfl | rfl | rfl | rfl <;> exact .cell _ (by first | rfl | assumption)
  · rintro r H' ⟨I, ⟨a, rfl, ⟨w, rfl, o⟩, k⟩, rfl⟩
    exact ⟨w, rfl, Own.back o (str_loose _), back_keep _ _⟩
theorem check_lent (c : Cmd) (hn : c.keys.length ≤ 1000) {m : Nat} {H : Heap} {v : AV} (h : OwnE Enc.str m H v c.keys) : WC Try.prog 10 [c.avv v] H fun r H' => r = .int .i64 (ordE c) ∧ H' = H :=
  WC_lend_val (args := [c.avv v]) (args' := [c.av]) ⟨Cmd.lend h, trivial⟩ (.cell _ rfl) (fun J => ordCheck_spec c hn J)
theorem same_lent (c d : Cmd) (hn : c.keys.length ≤ 1000) {m : Nat} {H : Heap} {v : AV} (h : OwnE Enc.str m H v c.keys) : WC Try.prog 11 [c.avv v, d.av] H fun r H' => r = .bool (decide (c = d)) ∧ H' = H :=
  WC_lend_val (args := [c.avv v, d.av]) (args' := [c.av, d.av]) ⟨Cmd.lend h, .agg_row ⟨.int _ _, .int _ _, .lst _ _, .str _, .int _ _, .int _ _, .int _ _, .int _ _, trivial⟩, trivial⟩ (.cell _ rfl) (fun J => sameCmd_spec c d hn J)
theorem reads_spec (k : Int) (H : Heap) : WC Try.prog 17 [.int .u8 k] H fun r H' => r = .bool (decide (k = 1)) ∧ H' = H := by
  refine WC_val fun K hK => ?_
  refine WC_of_body hT Try.func17 rfl (by simp [Try.f17]) (by simp [Try.f17]) (wx_sound hT _ ?_)
  simp only [Try.f17]
  repeat' (first | simp only [go_sem, Nat.reduceLT, Nat.reduceEqDiff, Nat.reduceAdd, Nat.reduceMul, Nat.reduceSub, Nat.reduceLeDiff, Int.reduceToNat, Int.reduceNeg, Int.reduceLT, Int.reduceLE, Int.reduceEq, reduceCtorEq, Int.natCast_zero, Int.natCast_one, Int.cast_ofNat_Int, Bool.not_not, false_eq_decide, true_eq_decide, hread0, hreadk, read_cons0, read_consk, astore_h0, astore_hk, hget0, hgetk, hset0, hsetk, hlen, hcat, Nat.add_assoc, Nat.add_zero, Nat.zero_add, List.length_append, and_true, true_and, AV.flat, *, -hK] | with_reducible refine IfB_dec (fun h => ?_) (fun h => ?_) | with_reducible refine Guard_dec (fun h => ?_) (fun h => ?_) | with_reducible refine Guard_ndec (fun h => ?_) (fun h => ?_) | with_reducible refine Guard_not (fun h => ?_) (fun h => ?_) | with_reducible refine IfB_ndec (fun h => ?_) (fun h => ?_) | with_reducible refine IfB_not (fun h => ?_) (fun h => ?_) | with_reducible refine Guard_split (fun h => ?_) (fun h => ?_) | with_reducible refine IfB_split (fun h => ?_) (fun h => ?_))
  all_goals exact hK _ _ (.bool _) (Keep.refl _ _)
end Go.Proofs.Ytkkgkljikmhldaa
