import Derived.Test.YtakmlfbejbelaaaCodeJ
set_option linter.unusedSimpArgs false
set_option linter.unusedVariables false
set_option maxRecDepth 100000
set_option maxHeartbeats 2000000
namespace Go.Proofs.Ytakmlfbejbelaaa
open Go Go.Proofs Go.Proofs.PI
theorem textsL_keys {l : List (List UInt8)} (h : l.all keyB = true) (h8 : l.length ≤ 8) : (textsL l).length ≤ 42 * 8 := by
  have := textsL_len (l := l) (m := 32) (fun x hx => by have := List.all_eq_true.1 h x hx; simp only [keyB, decide_eq_true_eq] at this; exact this.2) (by omega)
  omega
theorem command_own (c : Cmd) (ho : c.Ok) (hn : c.keys.length ≤ 140737488355328) (H : Heap) : WC Try.prog 24 [c.av] H fun r H' => (∃ b, r = .tup [b, .int .i64 (commandL c).2] ∧ Ob H.length H' b (commandL c).1) ∧ Keep none H H' := by
  refine WC_of_K fun K hK => ?_
  have sp := fun J => shaped_spec c hn J
  unfold Cmd.av at sp
  by_cases hs : shapedB c = true
  rotate_left
  · have hcl : commandL c = ([], 8) := if_neg hs
    rw [hcl] at hK
    rw [(by simpa using hs : shapedB c = false)] at sp
    refine WC_of_body hT Try.func24 rfl (by simp [Try.f24]) (by simp [Try.f24]) (wx_sound hT _ ?_)
    simp only [Try.f24]
    repeat' (first | simp only [go_sem, Nat.reduceLT, Nat.reduceEqDiff, Nat.reduceAdd, Nat.reduceMul, Nat.reduceSub, Nat.reduceLeDiff, Int.reduceToNat, Int.reduceNeg, Int.reduceLT, Int.reduceLE, Int.reduceEq, reduceCtorEq, Int.natCast_zero, Int.natCast_one, Int.cast_ofNat_Int, Bool.not_not, false_eq_decide, true_eq_decide, hread0, hreadk, read_cons0, read_consk, astore_h0, astore_hk, hget0, hgetk, hset0, hsetk, hlen, hcat, Nat.add_assoc, Nat.add_zero, Nat.zero_add, List.length_append, and_true, true_and, AV.flat, Cmd.av, *, -hK, -sp, -hs, -hcl] | refine WC.call (sp _) ?_ | with_reducible refine IfB_dec (fun h => ?_) (fun h => ?_) | with_reducible refine Guard_dec (fun h => ?_) (fun h => ?_) | with_reducible refine Guard_ndec (fun h => ?_) (fun h => ?_) | with_reducible refine Guard_not (fun h => ?_) (fun h => ?_) | with_reducible refine IfB_ndec (fun h => ?_) (fun h => ?_) | with_reducible refine IfB_not (fun h => ?_) (fun h => ?_) | with_reducible refine Guard_split (fun h => ?_) (fun h => ?_) | with_reducible refine IfB_split (fun h => ?_) (fun h => ?_))
    exact hK _ _ ⟨⟨_, rfl, Ob.nils _ _⟩, Keep.app _ _ _⟩
  have hcl : commandL c = (cmdL c, 0) := if_pos hs
  rw [hcl] at hK
  rw [hs] at sp
  have hsh := hs
  simp only [shapedB, Bool.and_eq_true, decide_eq_true_eq] at hsh
  obtain ⟨s1, s2, s3, s4, s5, s6, s7, s8, s9⟩ := hsh
  have hkl : (numsL [c.ten, (c.keys.length : Int)]).length ≤ 20 := numsL_len _
  have htl := textsL_keys s1 s6
  have hvl : (textsL [c.val]).length ≤ 522 := by
    have := textsL_len (l := [c.val]) (m := 512) (by simpa using s7) (by omega)
    simpa using this
  have hfl : IntKind.i64.wrap c.flags = c.flags := i64_id _ (by have := ho.flags; omega) (by have := ho.flags; omega)
  have hn2 : (numsL [c.flags, c.for_]).length ≤ 20 := numsL_len _
  have hu10 := small_len10 (n := c.uniq.toNat) (by have := ho.uniq; omega)
  have hb10 := small_len10 (n := c.by_.toNat) (by have := ho.by_; omega)
  have su := fun J => smallP c.uniq ho.uniq.1 ho.uniq.2 J
  have sb := fun J => smallP c.by_ ho.by_.1 ho.by_.2 J
  have hkind : [AV.int .u8 c.kind] = byc [UInt8.ofNat c.kind.toNat] := by
    have := ho.kind; simp [byc]; omega
  refine WC_of_body hT Try.func24 rfl (by simp [Try.f24]) (by simp [Try.f24]) (wx_sound hT _ ?_)
  simp only [Try.f24]
  repeat' (first | simp only [go_sem, Nat.reduceLT, Nat.reduceEqDiff, Nat.reduceAdd, Nat.reduceMul, Nat.reduceSub, Nat.reduceLeDiff, Int.reduceToNat, Int.reduceNeg, Int.reduceLT, Int.reduceLE, Int.reduceEq, reduceCtorEq, Int.natCast_zero, Int.natCast_one, Int.cast_ofNat_Int, Bool.not_not, false_eq_decide, true_eq_decide, hread0, hreadk, read_cons0, read_consk, astore_h0, astore_hk, hget0, hgetk, hset0, hsetk, hlen, hcat, Nat.add_assoc, Nat.add_zero, Nat.zero_add, List.length_append, and_true, true_and, AV.flat, Cmd.av, *, -hK, -sp, -hs, -hcl, -hkind, -hfl] | refine WC.call (sp _) ?_ | with_reducible refine IfB_dec (fun h => ?_) (fun h => ?_) | with_reducible refine Guard_dec (fun h => ?_) (fun h => ?_) | with_reducible refine Guard_ndec (fun h => ?_) (fun h => ?_) | with_reducible refine Guard_not (fun h => ?_) (fun h => ?_) | with_reducible refine IfB_ndec (fun h => ?_) (fun h => ?_) | with_reducible refine IfB_not (fun h => ?_) (fun h => ?_) | with_reducible refine Guard_split (fun h => ?_) (fun h => ?_) | with_reducible refine IfB_split (fun h => ?_) (fun h => ?_))
  clear sp hs hcl
  refine WX_rows hT hmix [(0, none), (1, none), (2, none), (3, none), (4, none), (5, none), (6, none), (7, none), (8, none), (10, none), (11, none), (9, some [false, false, true, true, true, true, true, true, true, true, true]), (12, some [true, true, true, true, true, true, true, true, true, true, true, true]), (13, none)] (by kernel_rfl) ?_
  repeat' (first | simp only [go_sem, Nat.reduceLT, Nat.reduceEqDiff, Nat.reduceAdd, Nat.reduceMul, Nat.reduceSub, Nat.reduceLeDiff, Int.reduceToNat, Int.reduceNeg, Int.reduceLT, Int.reduceLE, Int.reduceEq, reduceCtorEq, Int.natCast_zero, Int.natCast_one, Int.cast_ofNat_Int, Bool.not_not, false_eq_decide, true_eq_decide, hread0, hreadk, read_cons0, read_consk, astore_h0, astore_hk, hget0, hgetk, hset0, hsetk, hlen, hcat, Nat.add_assoc, Nat.add_zero, Nat.zero_add, List.length_append, and_true, true_and, AV.flat, *, -hK, -hkind, -hfl] | with_reducible refine IfB_dec (fun h => ?_) (fun h => ?_) | with_reducible refine Guard_dec (fun h => ?_) (fun h => ?_) | with_reducible refine Guard_ndec (fun h => ?_) (fun h => ?_) | with_reducible refine Guard_not (fun h => ?_) (fun h => ?_) | with_reducible refine IfB_ndec (fun h => ?_) (fun h => ?_) | with_reducible refine IfB_not (fun h => ?_) (fun h => ?_) | with_reducible refine Guard_split (fun h => ?_) (fun h => ?_) | with_reducible refine IfB_split (fun h => ?_) (fun h => ?_))
  have o1 : Ob (H.length + 1) (H ++ [(⟨c.cs, 0, .full⟩ : Blk), ⟨[.int .u8 c.kind], 1, .full⟩, ⟨[.int .i64 c.ten, .int .i64 c.keys.length], 1, .full⟩]) (.sl (H.length + 1) 0 1 none) [UInt8.ofNat c.kind.toNat] :=
    Own.whole (Nat.le_refl _) (by rw [hgetk, ← hkind]; rfl) rfl rfl
  refine (nums_spec (m := H.length + 1) _ _ _ [c.ten, c.keys.length] _ o1 (by simp) (get_vs (by rw [hgetk]; rfl) rfl rfl) (by simp [AV.blk]) (by simp)).mono ?_
  intro r1 H2 g1
  have hb1 := g1.keep.get (b := H.length) (B := ⟨c.cs, 0, .full⟩) (by rw [hget0]; rfl) (by simp [AV.blk])
  have hi1 := g1.keep.get (b := H.length + 2) (B := ⟨[.int .i64 c.ten, .int .i64 c.keys.length], 1, .full⟩) (by rw [hgetk]; rfl) (by simp [AV.blk])
  have hl1 : H.length + 3 ≤ H2.length := by have := g1.keep.len; simp at this; omega
  unfold Cmd.cs at hb1
  repeat' (first | simp only [go_sem, Nat.reduceLT, Nat.reduceEqDiff, Nat.reduceAdd, Nat.reduceMul, Nat.reduceSub, Nat.reduceLeDiff, Int.reduceToNat, Int.reduceNeg, Int.reduceLT, Int.reduceLE, Int.reduceEq, reduceCtorEq, Int.natCast_zero, Int.natCast_one, Int.cast_ofNat_Int, Bool.not_not, false_eq_decide, true_eq_decide, hread0, hreadk, read_cons0, read_consk, astore_h0, astore_hk, hget0, hgetk, hset0, hsetk, hlen, hcat, Nat.add_assoc, Nat.add_zero, Nat.zero_add, List.length_append, and_true, true_and, AV.flat, hb1, get_app hb1, read_get hb1, read_app hb1, *, -hK, -hkind, -hfl] | with_reducible refine IfB_dec (fun h => ?_) (fun h => ?_) | with_reducible refine Guard_dec (fun h => ?_) (fun h => ?_) | with_reducible refine Guard_ndec (fun h => ?_) (fun h => ?_) | with_reducible refine Guard_not (fun h => ?_) (fun h => ?_) | with_reducible refine IfB_ndec (fun h => ?_) (fun h => ?_) | with_reducible refine IfB_not (fun h => ?_) (fun h => ?_) | with_reducible refine Guard_split (fun h => ?_) (fun h => ?_) | with_reducible refine IfB_split (fun h => ?_) (fun h => ?_))
  refine (texts_lst (m := H.length + 1) _ _ c.keys _ g1.own (by omega) (by simp at hkl ⊢; omega) hn).mono ?_
  intro r2 H3 g2
  have g12 := g1.trans g2
  have hl3 : H.length + 3 ≤ H3.length := by have := g2.keep.len; omega
  have hb2 := g12.keep.get (b := H.length) (B := ⟨c.cs, 0, .full⟩) (by rw [hget0]; rfl) (by simp [AV.blk])
  have hr2 : ∀ b, r2.blk = some b → H.length + 1 ≤ b ∧ b < H3.length := fun b hb => ⟨g12.own.ge hb, g12.own.lt hb⟩
  unfold Cmd.cs at hb2
  repeat' (first | simp only [go_sem, Nat.reduceLT, Nat.reduceEqDiff, Nat.reduceAdd, Nat.reduceMul, Nat.reduceSub, Nat.reduceLeDiff, Int.reduceToNat, Int.reduceNeg, Int.reduceLT, Int.reduceLE, Int.reduceEq, reduceCtorEq, Int.natCast_zero, Int.natCast_one, Int.cast_ofNat_Int, Bool.not_not, false_eq_decide, true_eq_decide, hread0, hreadk, read_cons0, read_consk, astore_h0, astore_hk, hget0, hgetk, hset0, hsetk, hlen, hcat, Nat.add_assoc, Nat.add_zero, Nat.zero_add, List.length_append, and_true, true_and, AV.flat, hb2, get_app hb2, read_get hb2, read_app hb2, *, -hK, -hkind, -hfl] | with_reducible refine IfB_dec (fun h => ?_) (fun h => ?_) | with_reducible refine Guard_dec (fun h => ?_) (fun h => ?_) | with_reducible refine Guard_ndec (fun h => ?_) (fun h => ?_) | with_reducible refine Guard_not (fun h => ?_) (fun h => ?_) | with_reducible refine IfB_ndec (fun h => ?_) (fun h => ?_) | with_reducible refine IfB_not (fun h => ?_) (fun h => ?_) | with_reducible refine Guard_split (fun h => ?_) (fun h => ?_) | with_reducible refine IfB_split (fun h => ?_) (fun h => ?_))
  refine WX_rows hT hmix [(0, none), (1, none), (2, none), (3, none), (5, none), (6, none), (7, none), (8, none), (9, none), (10, none), (4, some [false, false, false, false, false, false, true, true, true, true]), (11, some [true, true, true, true, true, true, true, true, true, true, true]), (12, none)] (by kernel_rfl) ?_
  repeat' (first | simp only [go_sem, Nat.reduceLT, Nat.reduceEqDiff, Nat.reduceAdd, Nat.reduceMul, Nat.reduceSub, Nat.reduceLeDiff, Int.reduceToNat, Int.reduceNeg, Int.reduceLT, Int.reduceLE, Int.reduceEq, reduceCtorEq, Int.natCast_zero, Int.natCast_one, Int.cast_ofNat_Int, Bool.not_not, false_eq_decide, true_eq_decide, hread0, hreadk, read_cons0, read_consk, astore_h0, astore_hk, hget0, hgetk, hset0, hsetk, hlen, hcat, Nat.add_assoc, Nat.add_zero, Nat.zero_add, List.length_append, and_true, true_and, AV.flat, hb2, get_app hb2, read_get hb2, read_app hb2, *, -hK, -hkind, -hfl] | with_reducible refine IfB_dec (fun h => ?_) (fun h => ?_) | with_reducible refine Guard_dec (fun h => ?_) (fun h => ?_) | with_reducible refine Guard_ndec (fun h => ?_) (fun h => ?_) | with_reducible refine Guard_not (fun h => ?_) (fun h => ?_) | with_reducible refine IfB_ndec (fun h => ?_) (fun h => ?_) | with_reducible refine IfB_not (fun h => ?_) (fun h => ?_) | with_reducible refine Guard_split (fun h => ?_) (fun h => ?_) | with_reducible refine IfB_split (fun h => ?_) (fun h => ?_))
  rw [hfl]
  have ov : Ob (H.length + 1) (H3 ++ [(⟨[.str c.val], 1, .full⟩ : Blk), ⟨[.int .i64 c.flags, .int .i64 c.for_], 1, .full⟩]) r2 _ := g12.own.keep0 (Keep.app _ _ _)
  refine (texts_spec (m := H.length + 1) _ _ _ [c.val] _ ov (by simp; omega) (get_vs (by rw [hget0]; rfl) rfl rfl) (fun b hb e => by have := hr2 b e; simp [AV.blk] at hb; omega) (by simp at hkl htl hvl ⊢; omega) (by simp)).mono ?_
  intro r3 H4 g3
  have hb3 := g3.keep.get (get_app hb2 _) (g12.own.ne (by omega))
  have hin : H4[H3.length + 1]? = some ⟨[.int .i64 c.flags, .int .i64 c.for_], 1, .full⟩ := g3.keep.get (by rw [hgetk]; rfl) (fun e => by have := hr2 _ e; omega)
  have hin0 : H4[H3.length]? = some ⟨[.str c.val], 1, .full⟩ := g3.keep.get (by rw [hget0]; rfl) (fun e => by have := hr2 _ e; omega)
  have hl4 : H3.length + 2 ≤ H4.length := by have := g3.keep.len; simpa using this
  have hr3 : ∀ b, r3.blk = some b → b ≠ H3.length + 1 := fun b hb e => by
    rcases g3.new b hb with h | h
    · have := hr2 b h; omega
    · simp at h; omega
  repeat' (first | simp only [go_sem, Nat.reduceLT, Nat.reduceEqDiff, Nat.reduceAdd, Nat.reduceMul, Nat.reduceSub, Nat.reduceLeDiff, Int.reduceToNat, Int.reduceNeg, Int.reduceLT, Int.reduceLE, Int.reduceEq, reduceCtorEq, Int.natCast_zero, Int.natCast_one, Int.cast_ofNat_Int, Bool.not_not, false_eq_decide, true_eq_decide, hread0, hreadk, read_cons0, read_consk, astore_h0, astore_hk, hget0, hgetk, hset0, hsetk, hlen, hcat, Nat.add_assoc, Nat.add_zero, Nat.zero_add, List.length_append, and_true, true_and, AV.flat, hb3, get_app hb3, read_get hb3, read_app hb3, *, -hK, -hkind, -hfl] | with_reducible refine IfB_dec (fun h => ?_) (fun h => ?_) | with_reducible refine Guard_dec (fun h => ?_) (fun h => ?_) | with_reducible refine Guard_ndec (fun h => ?_) (fun h => ?_) | with_reducible refine Guard_not (fun h => ?_) (fun h => ?_) | with_reducible refine IfB_ndec (fun h => ?_) (fun h => ?_) | with_reducible refine IfB_not (fun h => ?_) (fun h => ?_) | with_reducible refine Guard_split (fun h => ?_) (fun h => ?_) | with_reducible refine IfB_split (fun h => ?_) (fun h => ?_))
  refine (nums_spec (m := H.length + 1) _ _ _ [c.flags, c.for_] _ g3.own (by omega) (get_vs hin rfl rfl) (fun b hb e => by have := hr3 b e; simp [AV.blk] at hb; omega) (by simp at hkl htl hvl ⊢; omega)).mono ?_
  intro r4 H5 g4
  have hb4 := g4.keep.get hb3 (g3.own.ne (by omega))
  have hl5 := g4.keep.len
  repeat' (first | simp only [go_sem, Nat.reduceLT, Nat.reduceEqDiff, Nat.reduceAdd, Nat.reduceMul, Nat.reduceSub, Nat.reduceLeDiff, Int.reduceToNat, Int.reduceNeg, Int.reduceLT, Int.reduceLE, Int.reduceEq, reduceCtorEq, Int.natCast_zero, Int.natCast_one, Int.cast_ofNat_Int, Bool.not_not, false_eq_decide, true_eq_decide, hread0, hreadk, read_cons0, read_consk, astore_h0, astore_hk, hget0, hgetk, hset0, hsetk, hlen, hcat, Nat.add_assoc, Nat.add_zero, Nat.zero_add, List.length_append, and_true, true_and, AV.flat, hb4, get_app hb4, read_get hb4, read_app hb4, *, -hK, -hkind, -hfl] | with_reducible refine IfB_dec (fun h => ?_) (fun h => ?_) | with_reducible refine Guard_dec (fun h => ?_) (fun h => ?_) | with_reducible refine Guard_ndec (fun h => ?_) (fun h => ?_) | with_reducible refine Guard_not (fun h => ?_) (fun h => ?_) | with_reducible refine IfB_ndec (fun h => ?_) (fun h => ?_) | with_reducible refine IfB_not (fun h => ?_) (fun h => ?_) | with_reducible refine Guard_split (fun h => ?_) (fun h => ?_) | with_reducible refine IfB_split (fun h => ?_) (fun h => ?_))
  refine WX_rows hT hmix [(0, none), (1, none), (2, none), (5, none), (6, none), (3, some [false, false, true, true, false]), (4, some [true, false, false, true, true, true]), (7, some [true, true, true, true, true, true, true]), (8, some [true, true, true, true, true, true, true, true]), (9, none), (10, none)] (by kernel_rfl) ?_
  repeat' (first | simp only [go_sem, Nat.reduceLT, Nat.reduceEqDiff, Nat.reduceAdd, Nat.reduceMul, Nat.reduceSub, Nat.reduceLeDiff, Int.reduceToNat, Int.reduceNeg, Int.reduceLT, Int.reduceLE, Int.reduceEq, reduceCtorEq, Int.natCast_zero, Int.natCast_one, Int.cast_ofNat_Int, Bool.not_not, false_eq_decide, true_eq_decide, hread0, hreadk, read_cons0, read_consk, astore_h0, astore_hk, hget0, hgetk, hset0, hsetk, hlen, hcat, Nat.add_assoc, Nat.add_zero, Nat.zero_add, List.length_append, and_true, true_and, AV.flat, hb4, get_app hb4, read_get hb4, read_app hb4, *, -hK, -hkind, -hfl, -su, -sb] | refine WC.call (su _) ?_ | refine WC.call (sb _) ?_ | with_reducible refine IfB_dec (fun h => ?_) (fun h => ?_) | with_reducible refine Guard_dec (fun h => ?_) (fun h => ?_) | with_reducible refine Guard_ndec (fun h => ?_) (fun h => ?_) | with_reducible refine Guard_not (fun h => ?_) (fun h => ?_) | with_reducible refine IfB_ndec (fun h => ?_) (fun h => ?_) | with_reducible refine IfB_not (fun h => ?_) (fun h => ?_) | with_reducible refine Guard_split (fun h => ?_) (fun h => ?_) | with_reducible refine IfB_split (fun h => ?_) (fun h => ?_))
  refine append_gr (m := H.length + 1) g4.own se30 az5 td5 rfl (u8_src tk30) (by simp only [List.length_append, List.length_cons, List.length_nil]; omega) (by omega) ?_
  intro r6 H7 g6
  have hb6 := g6.keep.get hb4 (g4.own.ne (by omega))
  have hl7 := g6.keep.len
  repeat' (first | simp only [go_sem, Nat.reduceLT, Nat.reduceEqDiff, Nat.reduceAdd, Nat.reduceMul, Nat.reduceSub, Nat.reduceLeDiff, Int.reduceToNat, Int.reduceNeg, Int.reduceLT, Int.reduceLE, Int.reduceEq, reduceCtorEq, Int.natCast_zero, Int.natCast_one, Int.cast_ofNat_Int, Bool.not_not, false_eq_decide, true_eq_decide, hread0, hreadk, read_cons0, read_consk, astore_h0, astore_hk, hget0, hgetk, hset0, hsetk, hlen, hcat, Nat.add_assoc, Nat.add_zero, Nat.zero_add, List.length_append, and_true, true_and, AV.flat, hb6, get_app hb6, read_get hb6, read_app hb6, *, -hK, -hkind, -hfl, -su, -sb] | refine WC.call (su _) ?_ | refine WC.call (sb _) ?_ | with_reducible refine IfB_dec (fun h => ?_) (fun h => ?_) | with_reducible refine Guard_dec (fun h => ?_) (fun h => ?_) | with_reducible refine Guard_ndec (fun h => ?_) (fun h => ?_) | with_reducible refine Guard_not (fun h => ?_) (fun h => ?_) | with_reducible refine IfB_ndec (fun h => ?_) (fun h => ?_) | with_reducible refine IfB_not (fun h => ?_) (fun h => ?_) | with_reducible refine Guard_split (fun h => ?_) (fun h => ?_) | with_reducible refine IfB_split (fun h => ?_) (fun h => ?_))
  refine append_gr (m := H.length + 1) g6.own se30 az5 td5 rfl (u8_src tk30) (by simp only [List.length_append, List.length_cons, List.length_nil]; omega) (by omega) ?_
  intro r8 H9 g8
  have gA := g12.trans (Grow.pre (Keep.app none _ _) g3)
  have gB := (gA.trans g4).trans (g6.trans g8)
  have gk := gB.keep0 (G := H) (Keep.app _ _ _) (fun b hb => by simp [AV.blk] at hb; omega)
  repeat' (first | simp only [go_sem, Nat.reduceLT, Nat.reduceEqDiff, Nat.reduceAdd, Nat.reduceMul, Nat.reduceSub, Nat.reduceLeDiff, Int.reduceToNat, Int.reduceNeg, Int.reduceLT, Int.reduceLE, Int.reduceEq, reduceCtorEq, Int.natCast_zero, Int.natCast_one, Int.cast_ofNat_Int, Bool.not_not, false_eq_decide, true_eq_decide, hread0, hreadk, read_cons0, read_consk, astore_h0, astore_hk, hget0, hgetk, hset0, hsetk, hlen, hcat, Nat.add_assoc, Nat.add_zero, Nat.zero_add, List.length_append, and_true, true_and, AV.flat, *, -hK, -hkind, -hfl] | with_reducible refine IfB_dec (fun h => ?_) (fun h => ?_) | with_reducible refine Guard_dec (fun h => ?_) (fun h => ?_) | with_reducible refine Guard_ndec (fun h => ?_) (fun h => ?_) | with_reducible refine Guard_not (fun h => ?_) (fun h => ?_) | with_reducible refine IfB_ndec (fun h => ?_) (fun h => ?_) | with_reducible refine IfB_not (fun h => ?_) (fun h => ?_) | with_reducible refine Guard_split (fun h => ?_) (fun h => ?_) | with_reducible refine IfB_split (fun h => ?_) (fun h => ?_))
  exact hK _ _ ⟨⟨_, rfl, Ob.mono gB.own (by omega)⟩, gk⟩
theorem commandP (c : Cmd) (ho : c.Ok) (hn : c.keys.length ≤ 140737488355328) (H : Heap) : WC Try.prog 24 [c.av] H fun r H' => r = .tup [Enc.u8.lst (commandL c).1, .int .i64 (commandL c).2] ∧ H' = H :=
  WC_froze (Q := fun r => r = _) ((command_own c ho hn H).mono fun r H' ⟨⟨b, h1, h2⟩, h3⟩ => ⟨_, by rw [h1]; exact Thaw.tup_row ⟨Thaw.ob h2, .int _ _, trivial⟩, h3, rfl⟩)
end Go.Proofs.Ytakmlfbejbelaaa
