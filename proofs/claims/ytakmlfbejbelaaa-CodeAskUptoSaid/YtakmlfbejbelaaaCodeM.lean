import Derived.Test.YtakmlfbejbelaaaCodeK
set_option linter.unusedSimpArgs false
set_option linter.unusedVariables false
set_option maxRecDepth 100000
set_option maxHeartbeats 2000000
namespace Go.Proofs.Ytakmlfbejbelaaa
open Go Go.Proofs Go.Proofs.PI
theorem refCommand_own (c : Cmd) (ho : c.Ok) (hn : c.keys.length ≤ 140737488355328) (H : Heap) : WC Try.prog 25 [c.av] H fun r H' => (∃ b, r = .tup [b, .int .i64 (commandL c).2] ∧ Ob H.length H' b (commandL c).1) ∧ Keep none H H' := by
  refine WC_of_K fun K hK => ?_
  have sp := fun J => refShaped_spec c hn J
  unfold Cmd.av at sp
  by_cases hs : shapedB c = true
  rotate_left
  · have hcl : commandL c = ([], 8) := if_neg hs
    rw [hcl] at hK
    rw [(by simpa using hs : shapedB c = false)] at sp
    refine WC_of_body hT Try.func25 rfl (by simp [Try.f25]) (by simp [Try.f25]) (wx_sound hT _ ?_)
    simp only [Try.f25]
    repeat' (first | simp only [go_sem, Nat.reduceLT, Nat.reduceEqDiff, Nat.reduceAdd, Nat.reduceMul, Nat.reduceSub, Nat.reduceLeDiff, Int.reduceToNat, Int.reduceNeg, Int.reduceLT, Int.reduceLE, Int.reduceEq, reduceCtorEq, Int.natCast_zero, Int.natCast_one, Int.cast_ofNat_Int, Bool.not_not, false_eq_decide, true_eq_decide, hread0, hreadk, read_cons0, read_consk, astore_h0, astore_hk, hget0, hgetk, hset0, hsetk, hlen, hcat, Nat.add_assoc, Nat.add_zero, Nat.zero_add, List.length_append, and_true, true_and, AV.flat, Cmd.av, *, -hK, -sp, -hs, -hcl] | refine WC.call (sp _) ?_ | with_reducible refine IfB_dec (fun h => ?_) (fun h => ?_) | with_reducible refine Guard_dec (fun h => ?_) (fun h => ?_) | with_reducible refine Guard_ndec (fun h => ?_) (fun h => ?_) | with_reducible refine Guard_not (fun h => ?_) (fun h => ?_) | with_reducible refine IfB_ndec (fun h => ?_) (fun h => ?_) | with_reducible refine IfB_not (fun h => ?_) (fun h => ?_) | with_reducible refine Guard_split (fun h => ?_) (fun h => ?_) | with_reducible refine IfB_split (fun h => ?_) (fun h => ?_))
    exact hK _ _ ⟨⟨_, rfl, Ob.nils _ _⟩, Keep.app _ _ _⟩
  have hcl : commandL c = (cmdL c, 0) := if_pos hs
  rw [hcl] at hK
  rw [hs] at sp
  have hsh := hs
  simp only [shapedB, Bool.and_eq_true, decide_eq_true_eq] at hsh
  obtain ⟨z1, z2, z3, z4, z5, z6, z7, z8, z9⟩ := hsh
  have hkl : (numsL [c.ten, (c.keys.length : Int)]).length ≤ 20 := numsL_len _
  have htl := textsL_keys z1 z6
  have hvl := textL_len (s := c.val) (by omega)
  have hfu : IntKind.u64.wrap c.flags = c.flags := u64w_id (by have := ho.flags; omega) (by have := ho.flags; omega)
  have hn1 : (numsL [c.for_]).length ≤ 10 := numsL_len _
  have hf10 := small_len10 (n := c.flags.toNat) (by have := ho.flags; omega)
  have hu10 := small_len10 (n := c.uniq.toNat) (by have := ho.uniq; omega)
  have hb10 := small_len10 (n := c.by_.toNat) (by have := ho.by_; omega)
  have sf := fun J => refSmallP c.flags ho.flags.1 (by have := ho.flags; omega) J
  have su := fun J => refSmallP c.uniq ho.uniq.1 ho.uniq.2 J
  have sb := fun J => refSmallP c.by_ ho.by_.1 ho.by_.2 J
  have sv := fun J => refTextP c.val (by omega) J
  have hkind : [AV.int .u8 c.kind] = byc [UInt8.ofNat c.kind.toNat] := by
    have := ho.kind; simp [byc]; omega
  refine WC_of_body hT Try.func25 rfl (by simp [Try.f25]) (by simp [Try.f25]) (wx_sound hT _ ?_)
  simp only [Try.f25]
  repeat' (first | simp only [go_sem, Nat.reduceLT, Nat.reduceEqDiff, Nat.reduceAdd, Nat.reduceMul, Nat.reduceSub, Nat.reduceLeDiff, Int.reduceToNat, Int.reduceNeg, Int.reduceLT, Int.reduceLE, Int.reduceEq, reduceCtorEq, Int.natCast_zero, Int.natCast_one, Int.cast_ofNat_Int, Bool.not_not, false_eq_decide, true_eq_decide, hread0, hreadk, read_cons0, read_consk, astore_h0, astore_hk, hget0, hgetk, hset0, hsetk, hlen, hcat, Nat.add_assoc, Nat.add_zero, Nat.zero_add, List.length_append, and_true, true_and, AV.flat, Cmd.av, *, -hK, -sp, -hs, -hcl, -hkind, -hfu, -sf, -su, -sb, -sv] | refine WC.call (sp _) ?_ | with_reducible refine IfB_dec (fun h => ?_) (fun h => ?_) | with_reducible refine Guard_dec (fun h => ?_) (fun h => ?_) | with_reducible refine Guard_ndec (fun h => ?_) (fun h => ?_) | with_reducible refine Guard_not (fun h => ?_) (fun h => ?_) | with_reducible refine IfB_ndec (fun h => ?_) (fun h => ?_) | with_reducible refine IfB_not (fun h => ?_) (fun h => ?_) | with_reducible refine Guard_split (fun h => ?_) (fun h => ?_) | with_reducible refine IfB_split (fun h => ?_) (fun h => ?_))
  clear sp hs hcl
  refine (refNums_spec _ [c.ten, c.keys.length] _ (get_vs (by rw [hgetk]; rfl) rfl rfl) (by simp)).mono ?_
  rintro r1 H2 ⟨o2, k2⟩
  have o1 : Ob (H.length + 1) (H ++ [(⟨c.cs, 0, .full⟩ : Blk), ⟨[.int .u8 c.kind], 1, .full⟩, ⟨[.int .i64 c.ten, .int .i64 c.keys.length], 1, .full⟩]) (.sl (H.length + 1) 0 1 none) [UInt8.ofNat c.kind.toNat] :=
    Own.whole (Nat.le_refl _) (by rw [hgetk, ← hkind]; rfl) rfl rfl
  have hl2 : H.length + 3 ≤ H2.length := by have := k2.len; simpa using this
  repeat' (first | simp only [go_sem, Nat.reduceLT, Nat.reduceEqDiff, Nat.reduceAdd, Nat.reduceMul, Nat.reduceSub, Nat.reduceLeDiff, Int.reduceToNat, Int.reduceNeg, Int.reduceLT, Int.reduceLE, Int.reduceEq, reduceCtorEq, Int.natCast_zero, Int.natCast_one, Int.cast_ofNat_Int, Bool.not_not, false_eq_decide, true_eq_decide, hread0, hreadk, read_cons0, read_consk, astore_h0, astore_hk, hget0, hgetk, hset0, hsetk, hlen, hcat, Nat.add_assoc, Nat.add_zero, Nat.zero_add, List.length_append, and_true, true_and, AV.flat, *, -hK, -hkind, -hfu, -sf, -su, -sb, -sv] | with_reducible refine IfB_dec (fun h => ?_) (fun h => ?_) | with_reducible refine Guard_dec (fun h => ?_) (fun h => ?_) | with_reducible refine Guard_ndec (fun h => ?_) (fun h => ?_) | with_reducible refine Guard_not (fun h => ?_) (fun h => ?_) | with_reducible refine IfB_ndec (fun h => ?_) (fun h => ?_) | with_reducible refine IfB_not (fun h => ?_) (fun h => ?_) | with_reducible refine Guard_split (fun h => ?_) (fun h => ?_) | with_reducible refine IfB_split (fun h => ?_) (fun h => ?_))
  refine append_gr (m := H.length + 1) (o1.keep0 k2) se30 az5 td5 rfl (o2.bs.src tk30) (by simp only [List.length_append, List.length_cons, List.length_nil]; omega) (by omega) ?_
  intro r3 H3 g3
  have gT := Grow.pre k2 g3
  have hbG : ∀ {v : AV} {G : Heap} {l : List UInt8}, Grow (H.length + 1) (H ++ [(⟨c.cs, 0, .full⟩ : Blk), ⟨[.int .u8 c.kind], 1, .full⟩, ⟨[.int .i64 c.ten, .int .i64 c.keys.length], 1, .full⟩]) (.sl (H.length + 1) 0 1 none) G v l → G[H.length]? = some ⟨c.cs, 0, .full⟩ ∧ H.length + 3 ≤ G.length := fun g => ⟨g.keep.get (by rw [hget0]; rfl) (by simp [AV.blk]), by have := g.keep.len; simpa using this⟩
  unfold Cmd.cs at hbG gT
  clear o1 o2 k2 hl2 g3
  repeat' (first | simp only [go_sem, Nat.reduceLT, Nat.reduceEqDiff, Nat.reduceAdd, Nat.reduceMul, Nat.reduceSub, Nat.reduceLeDiff, Int.reduceToNat, Int.reduceNeg, Int.reduceLT, Int.reduceLE, Int.reduceEq, reduceCtorEq, Int.natCast_zero, Int.natCast_one, Int.cast_ofNat_Int, Bool.not_not, false_eq_decide, true_eq_decide, hread0, hreadk, read_cons0, read_consk, astore_h0, astore_hk, hget0, hgetk, hset0, hsetk, hlen, hcat, Nat.add_assoc, Nat.add_zero, Nat.zero_add, List.length_append, and_true, true_and, AV.flat, *, -hK, -hkind, -hfu, -sf, -su, -sb, -sv] | with_reducible refine IfB_dec (fun h => ?_) (fun h => ?_) | with_reducible refine Guard_dec (fun h => ?_) (fun h => ?_) | with_reducible refine Guard_ndec (fun h => ?_) (fun h => ?_) | with_reducible refine Guard_not (fun h => ?_) (fun h => ?_) | with_reducible refine IfB_ndec (fun h => ?_) (fun h => ?_) | with_reducible refine IfB_not (fun h => ?_) (fun h => ?_) | with_reducible refine Guard_split (fun h => ?_) (fun h => ?_) | with_reducible refine IfB_split (fun h => ?_) (fun h => ?_))
  refine WX_loopS [1, 2, 3] (fun k fr' H' => ∃ (i : Nat) (a : AV), k = c.keys.length - i ∧ i ≤ c.keys.length ∧ fr'.get 4 = a ∧ fr'.get 5 = .int .i64 i ∧ Grow (H.length + 1) (H ++ [(⟨[.int .u8 c.kind, .int .i64 c.ten, Enc.str.lst c.keys, .str c.val, .int .u32 c.flags, .int .i64 c.for_, .int .u64 c.uniq, .int .u64 c.by_], 0, .full⟩ : Blk), ⟨[.int .u8 c.kind], 1, .full⟩, ⟨[.int .i64 c.ten, .int .i64 c.keys.length], 1, .full⟩]) (.sl (H.length + 1) 0 1 none) H' a ([UInt8.ofNat c.kind.toNat] ++ numsL [c.ten, c.keys.length] ++ textsL (c.keys.take i))) c.keys.length ⟨0, r3, rfl, by omega, by simp only [go_sem, Nat.reduceLT, Nat.reduceEqDiff, Nat.reduceAdd, Nat.reduceMul, Nat.reduceSub, Nat.reduceLeDiff, Int.reduceToNat, Int.reduceNeg, Int.reduceLT, Int.reduceLE, Int.reduceEq, reduceCtorEq], by simp only [go_sem, Nat.reduceLT, Nat.reduceEqDiff, Nat.reduceAdd, Nat.reduceMul, Nat.reduceSub, Nat.reduceLeDiff, Int.reduceToNat, Int.reduceNeg, Int.reduceLT, Int.reduceLE, Int.reduceEq, reduceCtorEq]; rfl, gT.eq (by simp [textsL])⟩ ?_
  rintro k fr' H' A R hA hs hg hR ⟨i, a, rfl, hi, f4, f5, g⟩
  have s1 := hg 1 (by decide)
  have s2 := hg 2 (by decide)
  have s3 := hg 3 (by decide)
  simp only [Fr.get_put, Fr.get_init, List.getD_cons_zero, List.getD_cons_succ, Nat.reduceEqDiff, if_true, if_false] at s1 s2 s3
  obtain ⟨hbi, hli⟩ := hbG g
  refine wx_sound hT _ ?_
  repeat' (first | simp only [go_sem, Nat.reduceLT, Nat.reduceEqDiff, Nat.reduceAdd, Nat.reduceMul, Nat.reduceSub, Nat.reduceLeDiff, Int.reduceToNat, Int.reduceNeg, Int.reduceLT, Int.reduceLE, Int.reduceEq, reduceCtorEq, Int.natCast_zero, Int.natCast_one, Int.cast_ofNat_Int, Bool.not_not, false_eq_decide, true_eq_decide, hread0, hreadk, read_cons0, read_consk, astore_h0, astore_hk, hget0, hgetk, hset0, hsetk, hlen, hcat, Nat.add_assoc, Nat.add_zero, Nat.zero_add, List.length_append, and_true, true_and, AV.flat, hbi, get_app hbi, read_get hbi, read_app hbi, *, -hK, -hkind, -hfu, -sf, -su, -sb, -sv] | with_reducible refine IfB_dec (fun h => ?_) (fun h => ?_) | with_reducible refine Guard_dec (fun h => ?_) (fun h => ?_) | with_reducible refine Guard_ndec (fun h => ?_) (fun h => ?_) | with_reducible refine Guard_not (fun h => ?_) (fun h => ?_) | with_reducible refine IfB_ndec (fun h => ?_) (fun h => ?_) | with_reducible refine IfB_not (fun h => ?_) (fun h => ?_) | with_reducible refine Guard_split (fun h => ?_) (fun h => ?_) | with_reducible refine IfB_split (fun h => ?_) (fun h => ?_))
  case refine_1 =>
    have hlt : i < c.keys.length := by omega
    have hkk : c.keys[i].length ≤ 32 := by
      have := List.all_eq_true.1 z1 _ (List.getElem_mem hlt)
      simp only [keyB, decide_eq_true_eq] at this; exact this.2
    have hsum : (textsL (c.keys.take i)).length ≤ 336 := textsL_keys (by rw [List.all_eq_true]; intro x hx; exact List.all_eq_true.1 z1 x (List.mem_of_mem_take hx)) (by rw [List.length_take]; omega)
    have hone := textL_len (s := c.keys[i]) (by omega)
    have e1 := at_enc (E := Enc.str) (T := T) (k := .i64) se42 hlt rfl
    have e3 := inc_id hlt hn
    have tk := fun J => refTextP c.keys[i] (by omega) J
    repeat' (first | simp only [go_sem, Nat.reduceLT, Nat.reduceEqDiff, Nat.reduceAdd, Nat.reduceMul, Nat.reduceSub, Nat.reduceLeDiff, Int.reduceToNat, Int.reduceNeg, Int.reduceLT, Int.reduceLE, Int.reduceEq, reduceCtorEq, Int.natCast_zero, Int.natCast_one, Int.cast_ofNat_Int, Bool.not_not, false_eq_decide, true_eq_decide, hread0, hreadk, read_cons0, read_consk, astore_h0, astore_hk, hget0, hgetk, hset0, hsetk, hlen, hcat, Nat.add_assoc, Nat.add_zero, Nat.zero_add, List.length_append, and_true, true_and, AV.flat, hbi, get_app hbi, read_get hbi, read_app hbi, str_cells, *, -hK, -hkind, -hfu, -sf, -su, -sb, -sv, -tk] | refine WC.call (tk _) ?_ | with_reducible refine IfB_dec (fun h => ?_) (fun h => ?_) | with_reducible refine Guard_dec (fun h => ?_) (fun h => ?_) | with_reducible refine Guard_ndec (fun h => ?_) (fun h => ?_) | with_reducible refine Guard_not (fun h => ?_) (fun h => ?_) | with_reducible refine IfB_ndec (fun h => ?_) (fun h => ?_) | with_reducible refine IfB_not (fun h => ?_) (fun h => ?_) | with_reducible refine Guard_split (fun h => ?_) (fun h => ?_) | with_reducible refine IfB_split (fun h => ?_) (fun h => ?_))
    refine append_gr (m := H.length + 1) g.own se30 az5 td5 rfl (u8_src tk30) (by simp only [List.length_append, List.length_cons, List.length_nil]; omega) (by omega) ?_
    intro r5 H5 g5
    repeat' (first | simp only [go_sem, Nat.reduceLT, Nat.reduceEqDiff, Nat.reduceAdd, Nat.reduceMul, Nat.reduceSub, Nat.reduceLeDiff, Int.reduceToNat, Int.reduceNeg, Int.reduceLT, Int.reduceLE, Int.reduceEq, reduceCtorEq, Int.natCast_zero, Int.natCast_one, Int.cast_ofNat_Int, Bool.not_not, false_eq_decide, true_eq_decide, hread0, hreadk, read_cons0, read_consk, astore_h0, astore_hk, hget0, hgetk, hset0, hsetk, hlen, hcat, Nat.add_assoc, Nat.add_zero, Nat.zero_add, List.length_append, and_true, true_and, AV.flat, *, -hK, -hkind, -hfu, -sf, -su, -sb, -sv, -tk] | with_reducible refine IfB_dec (fun h => ?_) (fun h => ?_) | with_reducible refine Guard_dec (fun h => ?_) (fun h => ?_) | with_reducible refine Guard_ndec (fun h => ?_) (fun h => ?_) | with_reducible refine Guard_not (fun h => ?_) (fun h => ?_) | with_reducible refine IfB_ndec (fun h => ?_) (fun h => ?_) | with_reducible refine IfB_not (fun h => ?_) (fun h => ?_) | with_reducible refine Guard_split (fun h => ?_) (fun h => ?_) | with_reducible refine IfB_split (fun h => ?_) (fun h => ?_))
    exact hR _ _ (by (repeat (first | exact hs | refine hA _ _ _ (by decide) ?_))) (c.keys.length - (i + 1)) (by omega) ⟨i + 1, r5, rfl, by omega, by simp only [go_sem, Nat.reduceLT, Nat.reduceEqDiff, Nat.reduceAdd, Nat.reduceMul, Nat.reduceSub, Nat.reduceLeDiff, Int.reduceToNat, Int.reduceNeg, Int.reduceLT, Int.reduceLE, Int.reduceEq, reduceCtorEq], by simp only [go_sem, Nat.reduceLT, Nat.reduceEqDiff, Nat.reduceAdd, Nat.reduceMul, Nat.reduceSub, Nat.reduceLeDiff, Int.reduceToNat, Int.reduceNeg, Int.reduceLT, Int.reduceLE, Int.reduceEq, reduceCtorEq], (g.trans g5).eq (by rw [textsL_snoc _ i hlt]; simp)⟩
  case refine_2 =>
    have hin : i = c.keys.length := by omega
    rw [hin, List.take_length] at g
    clear hR hA hs hg A R
    repeat' (first | simp only [go_sem, Nat.reduceLT, Nat.reduceEqDiff, Nat.reduceAdd, Nat.reduceMul, Nat.reduceSub, Nat.reduceLeDiff, Int.reduceToNat, Int.reduceNeg, Int.reduceLT, Int.reduceLE, Int.reduceEq, reduceCtorEq, Int.natCast_zero, Int.natCast_one, Int.cast_ofNat_Int, Bool.not_not, false_eq_decide, true_eq_decide, hread0, hreadk, read_cons0, read_consk, astore_h0, astore_hk, hget0, hgetk, hset0, hsetk, hlen, hcat, Nat.add_assoc, Nat.add_zero, Nat.zero_add, List.length_append, and_true, true_and, AV.flat, hbi, get_app hbi, read_get hbi, read_app hbi, *, -hK, -hkind, -hfu, -sf, -su, -sb, -sv, -hin] | refine WC.call (sv _) ?_ | with_reducible refine IfB_dec (fun h => ?_) (fun h => ?_) | with_reducible refine Guard_dec (fun h => ?_) (fun h => ?_) | with_reducible refine Guard_ndec (fun h => ?_) (fun h => ?_) | with_reducible refine Guard_not (fun h => ?_) (fun h => ?_) | with_reducible refine IfB_ndec (fun h => ?_) (fun h => ?_) | with_reducible refine IfB_not (fun h => ?_) (fun h => ?_) | with_reducible refine Guard_split (fun h => ?_) (fun h => ?_) | with_reducible refine IfB_split (fun h => ?_) (fun h => ?_))
    refine append_gr (m := H.length + 1) g.own se30 az5 td5 rfl (u8_src tk30) (by simp only [List.length_append, List.length_cons, List.length_nil]; omega) (by omega) ?_
    intro r5 H5 g5
    have gA := g.trans g5
    obtain ⟨hb5, hl5⟩ := hbG gA
    repeat' (first | simp only [go_sem, Nat.reduceLT, Nat.reduceEqDiff, Nat.reduceAdd, Nat.reduceMul, Nat.reduceSub, Nat.reduceLeDiff, Int.reduceToNat, Int.reduceNeg, Int.reduceLT, Int.reduceLE, Int.reduceEq, reduceCtorEq, Int.natCast_zero, Int.natCast_one, Int.cast_ofNat_Int, Bool.not_not, false_eq_decide, true_eq_decide, hread0, hreadk, read_cons0, read_consk, astore_h0, astore_hk, hget0, hgetk, hset0, hsetk, hlen, hcat, Nat.add_assoc, Nat.add_zero, Nat.zero_add, List.length_append, and_true, true_and, AV.flat, hb5, get_app hb5, read_get hb5, read_app hb5, *, -hK, -hkind, -sf, -su, -sb, -sv, -hin] | refine WC.call (sf _) ?_ | with_reducible refine IfB_dec (fun h => ?_) (fun h => ?_) | with_reducible refine Guard_dec (fun h => ?_) (fun h => ?_) | with_reducible refine Guard_ndec (fun h => ?_) (fun h => ?_) | with_reducible refine Guard_not (fun h => ?_) (fun h => ?_) | with_reducible refine IfB_ndec (fun h => ?_) (fun h => ?_) | with_reducible refine IfB_not (fun h => ?_) (fun h => ?_) | with_reducible refine Guard_split (fun h => ?_) (fun h => ?_) | with_reducible refine IfB_split (fun h => ?_) (fun h => ?_))
    refine append_gr (m := H.length + 1) gA.own se30 az5 td5 rfl (u8_src tk30) (by simp only [List.length_append, List.length_cons, List.length_nil]; omega) (by omega) ?_
    intro r7 H7 g7
    have gB := gA.trans g7
    obtain ⟨hb7, hl7⟩ := hbG gB
    repeat' (first | simp only [go_sem, Nat.reduceLT, Nat.reduceEqDiff, Nat.reduceAdd, Nat.reduceMul, Nat.reduceSub, Nat.reduceLeDiff, Int.reduceToNat, Int.reduceNeg, Int.reduceLT, Int.reduceLE, Int.reduceEq, reduceCtorEq, Int.natCast_zero, Int.natCast_one, Int.cast_ofNat_Int, Bool.not_not, false_eq_decide, true_eq_decide, hread0, hreadk, read_cons0, read_consk, astore_h0, astore_hk, hget0, hgetk, hset0, hsetk, hlen, hcat, Nat.add_assoc, Nat.add_zero, Nat.zero_add, List.length_append, and_true, true_and, AV.flat, hb7, get_app hb7, read_get hb7, read_app hb7, *, -hK, -hkind, -sf, -su, -sb, -sv, -hin] | with_reducible refine IfB_dec (fun h => ?_) (fun h => ?_) | with_reducible refine Guard_dec (fun h => ?_) (fun h => ?_) | with_reducible refine Guard_ndec (fun h => ?_) (fun h => ?_) | with_reducible refine Guard_not (fun h => ?_) (fun h => ?_) | with_reducible refine IfB_ndec (fun h => ?_) (fun h => ?_) | with_reducible refine IfB_not (fun h => ?_) (fun h => ?_) | with_reducible refine Guard_split (fun h => ?_) (fun h => ?_) | with_reducible refine IfB_split (fun h => ?_) (fun h => ?_))
    refine (refNums_spec _ [c.for_] _ (snoc_vs rfl rfl) (by simp)).mono ?_
    rintro r8 H8 ⟨o8, k8⟩
    have k78 : Keep none H7 H8 := (Keep.snoc none _ _).trans k8
    have hl8 := k78.len
    repeat' (first | simp only [go_sem, Nat.reduceLT, Nat.reduceEqDiff, Nat.reduceAdd, Nat.reduceMul, Nat.reduceSub, Nat.reduceLeDiff, Int.reduceToNat, Int.reduceNeg, Int.reduceLT, Int.reduceLE, Int.reduceEq, reduceCtorEq, Int.natCast_zero, Int.natCast_one, Int.cast_ofNat_Int, Bool.not_not, false_eq_decide, true_eq_decide, hread0, hreadk, read_cons0, read_consk, astore_h0, astore_hk, hget0, hgetk, hset0, hsetk, hlen, hcat, Nat.add_assoc, Nat.add_zero, Nat.zero_add, List.length_append, and_true, true_and, AV.flat, *, -hK, -hkind, -sf, -su, -sb, -sv, -hin] | with_reducible refine IfB_dec (fun h => ?_) (fun h => ?_) | with_reducible refine Guard_dec (fun h => ?_) (fun h => ?_) | with_reducible refine Guard_ndec (fun h => ?_) (fun h => ?_) | with_reducible refine Guard_not (fun h => ?_) (fun h => ?_) | with_reducible refine IfB_ndec (fun h => ?_) (fun h => ?_) | with_reducible refine IfB_not (fun h => ?_) (fun h => ?_) | with_reducible refine Guard_split (fun h => ?_) (fun h => ?_) | with_reducible refine IfB_split (fun h => ?_) (fun h => ?_))
    refine append_gr (m := H.length + 1) (gB.own.keep0 k78) se30 az5 td5 rfl (o8.bs.src tk30) (by simp only [List.length_append, List.length_cons, List.length_nil]; omega) (by omega) ?_
    intro r9 H9 g9
    have gC := gB.trans (Grow.pre k78 g9)
    obtain ⟨hb9, hl9⟩ := hbG gC
    repeat' (first | simp only [go_sem, Nat.reduceLT, Nat.reduceEqDiff, Nat.reduceAdd, Nat.reduceMul, Nat.reduceSub, Nat.reduceLeDiff, Int.reduceToNat, Int.reduceNeg, Int.reduceLT, Int.reduceLE, Int.reduceEq, reduceCtorEq, Int.natCast_zero, Int.natCast_one, Int.cast_ofNat_Int, Bool.not_not, false_eq_decide, true_eq_decide, hread0, hreadk, read_cons0, read_consk, astore_h0, astore_hk, hget0, hgetk, hset0, hsetk, hlen, hcat, Nat.add_assoc, Nat.add_zero, Nat.zero_add, List.length_append, and_true, true_and, AV.flat, hb9, get_app hb9, read_get hb9, read_app hb9, *, -hK, -hkind, -sf, -su, -sb, -sv, -hin] | refine WC.call (su _) ?_ | with_reducible refine IfB_dec (fun h => ?_) (fun h => ?_) | with_reducible refine Guard_dec (fun h => ?_) (fun h => ?_) | with_reducible refine Guard_ndec (fun h => ?_) (fun h => ?_) | with_reducible refine Guard_not (fun h => ?_) (fun h => ?_) | with_reducible refine IfB_ndec (fun h => ?_) (fun h => ?_) | with_reducible refine IfB_not (fun h => ?_) (fun h => ?_) | with_reducible refine Guard_split (fun h => ?_) (fun h => ?_) | with_reducible refine IfB_split (fun h => ?_) (fun h => ?_))
    refine append_gr (m := H.length + 1) gC.own se30 az5 td5 rfl (u8_src tk30) (by simp only [List.length_append, List.length_cons, List.length_nil]; omega) (by omega) ?_
    intro r11 H11 g11
    have gD := gC.trans g11
    obtain ⟨hb11, hl11⟩ := hbG gD
    repeat' (first | simp only [go_sem, Nat.reduceLT, Nat.reduceEqDiff, Nat.reduceAdd, Nat.reduceMul, Nat.reduceSub, Nat.reduceLeDiff, Int.reduceToNat, Int.reduceNeg, Int.reduceLT, Int.reduceLE, Int.reduceEq, reduceCtorEq, Int.natCast_zero, Int.natCast_one, Int.cast_ofNat_Int, Bool.not_not, false_eq_decide, true_eq_decide, hread0, hreadk, read_cons0, read_consk, astore_h0, astore_hk, hget0, hgetk, hset0, hsetk, hlen, hcat, Nat.add_assoc, Nat.add_zero, Nat.zero_add, List.length_append, and_true, true_and, AV.flat, hb11, get_app hb11, read_get hb11, read_app hb11, *, -hK, -hkind, -sf, -su, -sb, -sv, -hin] | refine WC.call (sb _) ?_ | with_reducible refine IfB_dec (fun h => ?_) (fun h => ?_) | with_reducible refine Guard_dec (fun h => ?_) (fun h => ?_) | with_reducible refine Guard_ndec (fun h => ?_) (fun h => ?_) | with_reducible refine Guard_not (fun h => ?_) (fun h => ?_) | with_reducible refine IfB_ndec (fun h => ?_) (fun h => ?_) | with_reducible refine IfB_not (fun h => ?_) (fun h => ?_) | with_reducible refine Guard_split (fun h => ?_) (fun h => ?_) | with_reducible refine IfB_split (fun h => ?_) (fun h => ?_))
    refine append_gr (m := H.length + 1) gD.own se30 az5 td5 rfl (u8_src tk30) (by simp only [List.length_append, List.length_cons, List.length_nil]; omega) (by omega) ?_
    intro r13 H13 g13
    have gE := gD.trans g13
    repeat' (first | simp only [go_sem, Nat.reduceLT, Nat.reduceEqDiff, Nat.reduceAdd, Nat.reduceMul, Nat.reduceSub, Nat.reduceLeDiff, Int.reduceToNat, Int.reduceNeg, Int.reduceLT, Int.reduceLE, Int.reduceEq, reduceCtorEq, Int.natCast_zero, Int.natCast_one, Int.cast_ofNat_Int, Bool.not_not, false_eq_decide, true_eq_decide, hread0, hreadk, read_cons0, read_consk, astore_h0, astore_hk, hget0, hgetk, hset0, hsetk, hlen, hcat, Nat.add_assoc, Nat.add_zero, Nat.zero_add, List.length_append, and_true, true_and, AV.flat, *, -hK, -hkind, -sf, -su, -sb, -sv, -hin] | with_reducible refine IfB_dec (fun h => ?_) (fun h => ?_) | with_reducible refine Guard_dec (fun h => ?_) (fun h => ?_) | with_reducible refine Guard_ndec (fun h => ?_) (fun h => ?_) | with_reducible refine Guard_not (fun h => ?_) (fun h => ?_) | with_reducible refine IfB_ndec (fun h => ?_) (fun h => ?_) | with_reducible refine IfB_not (fun h => ?_) (fun h => ?_) | with_reducible refine Guard_split (fun h => ?_) (fun h => ?_) | with_reducible refine IfB_split (fun h => ?_) (fun h => ?_))
    have he : cmdL c = [UInt8.ofNat c.kind.toNat] ++ numsL [c.ten, ↑c.keys.length] ++ textsL c.keys ++ textL c.val ++ small c.flags.toNat ++ numsL [c.for_] ++ small c.uniq.toNat ++ small c.by_.toNat := by
      simp [cmdL, textsL, numsL, hfu]
    rw [he] at hK
    exact hK _ _ ⟨⟨_, rfl, Ob.mono gE.own (by omega)⟩, gE.keep0 (G := H) (Keep.app _ _ _) (fun b hb => by simp [AV.blk] at hb; omega)⟩
theorem refCommandP (c : Cmd) (ho : c.Ok) (hn : c.keys.length ≤ 140737488355328) (H : Heap) : WC Try.prog 25 [c.av] H fun r H' => r = .tup [Enc.u8.lst (commandL c).1, .int .i64 (commandL c).2] ∧ H' = H :=
  WC_froze (Q := fun r => r = _) ((refCommand_own c ho hn H).mono fun r H' ⟨⟨b, h1, h2⟩, h3⟩ => ⟨_, by rw [h1]; exact Thaw.tup_row ⟨Thaw.ob h2, .int _ _, trivial⟩, h3, rfl⟩)
/-! ### the document's reader -/
theorem Number_spec (p m : Nat) (hm : m < 2 ^ 64) (l : List UInt8) (bad : Bool) (hl : l.length ≤ 140737488355328) (H : Heap) (hb : H[p]? = some ⟨[Enc.u8.lst l, .bool bad], 0, .full⟩) :
    WC Try.prog 53 [.ptr p 0, .int .u64 m] H fun r H' => r = .int .u64 (numR m ⟨l, bad⟩).1 ∧ H' = List.set H p (numR m ⟨l, bad⟩).2.blk := by
  refine WC_of_K fun K hK => ?_
  have rp := fun J => refReadP l hl J
  cases hr : rd 0 l with
  | none =>
    have e : numR m ⟨l, bad⟩ = (0, ⟨l, true⟩) := by unfold numR; simp only [hr]
    rw [e] at hK
    rw [hr] at rp
    unfold rdV at rp
    refine WC_of_body hT Try.func53 rfl (by simp [Try.f53]) (by simp [Try.f53]) (wx_sound hT _ ?_)
    simp only [Try.f53]
    repeat' (first | simp only [go_sem, Nat.reduceLT, Nat.reduceEqDiff, Nat.reduceAdd, Nat.reduceMul, Nat.reduceSub, Nat.reduceLeDiff, Int.reduceToNat, Int.reduceNeg, Int.reduceLT, Int.reduceLE, Int.reduceEq, reduceCtorEq, Int.natCast_zero, Int.natCast_one, Int.cast_ofNat_Int, Bool.not_not, false_eq_decide, true_eq_decide, hread0, hreadk, read_cons0, read_consk, astore_h0, astore_hk, hget0, hgetk, hset0, hsetk, hlen, hcat, Nat.add_assoc, Nat.add_zero, Nat.zero_add, List.length_append, and_true, true_and, AV.flat, hb, get_app hb, read_get hb, read_app hb, astore_get hb, astore_app hb, get_set hb, get_set_app hb, read_set hb, read_set_app hb, astore_set hb, astore_set_app hb, List.set_set, hget0s, hgetks, hread0s, hreadks, List.length_set, *, -hK, -rp] | refine WC.call (rp _) ?_ | with_reducible refine IfB_dec (fun h => ?_) (fun h => ?_) | with_reducible refine Guard_dec (fun h => ?_) (fun h => ?_) | with_reducible refine Guard_ndec (fun h => ?_) (fun h => ?_) | with_reducible refine Guard_not (fun h => ?_) (fun h => ?_) | with_reducible refine IfB_ndec (fun h => ?_) (fun h => ?_) | with_reducible refine IfB_not (fun h => ?_) (fun h => ?_) | with_reducible refine Guard_split (fun h => ?_) (fun h => ?_) | with_reducible refine IfB_split (fun h => ?_) (fun h => ?_))
    exact hK _ _ ⟨rfl, rfl⟩
  | some q =>
    obtain ⟨n, k⟩ := q
    have h64 := rd_lt64 hr
    have hk := rd_len l 0 hr
    simp only at h64 hk
    rw [hr] at rp
    unfold rdV at rp
    by_cases hc : n > m
    · have e : numR m ⟨l, bad⟩ = (0, ⟨l, true⟩) := by unfold numR; simp only [hr, hc, if_true]
      have hc' : (m : Int) < n := by omega
      rw [e] at hK
      refine WC_of_body hT Try.func53 rfl (by simp [Try.f53]) (by simp [Try.f53]) (wx_sound hT _ ?_)
      simp only [Try.f53]
      repeat' (first | simp only [go_sem, Nat.reduceLT, Nat.reduceEqDiff, Nat.reduceAdd, Nat.reduceMul, Nat.reduceSub, Nat.reduceLeDiff, Int.reduceToNat, Int.reduceNeg, Int.reduceLT, Int.reduceLE, Int.reduceEq, reduceCtorEq, Int.natCast_zero, Int.natCast_one, Int.cast_ofNat_Int, Bool.not_not, false_eq_decide, true_eq_decide, hread0, hreadk, read_cons0, read_consk, astore_h0, astore_hk, hget0, hgetk, hset0, hsetk, hlen, hcat, Nat.add_assoc, Nat.add_zero, Nat.zero_add, List.length_append, and_true, true_and, AV.flat, hb, get_app hb, read_get hb, read_app hb, astore_get hb, astore_app hb, get_set hb, get_set_app hb, read_set hb, read_set_app hb, astore_set hb, astore_set_app hb, List.set_set, hget0s, hgetks, hread0s, hreadks, List.length_set, *, -hK, -rp] | refine WC.call (rp _) ?_ | with_reducible refine IfB_dec (fun h => ?_) (fun h => ?_) | with_reducible refine Guard_dec (fun h => ?_) (fun h => ?_) | with_reducible refine Guard_ndec (fun h => ?_) (fun h => ?_) | with_reducible refine Guard_not (fun h => ?_) (fun h => ?_) | with_reducible refine IfB_ndec (fun h => ?_) (fun h => ?_) | with_reducible refine IfB_not (fun h => ?_) (fun h => ?_) | with_reducible refine Guard_split (fun h => ?_) (fun h => ?_) | with_reducible refine IfB_split (fun h => ?_) (fun h => ?_))
      exact hK _ _ ⟨rfl, rfl⟩
    · have e : numR m ⟨l, bad⟩ = (n, ⟨l.drop k, bad⟩) := by unfold numR; simp only [hr, hc, if_false]
      have hc' : ¬ (m : Int) < n := by omega
      have s0 := fun J => slice_enc (H := J) (E := Enc.u8) (xs := l) (l := k) (u := l.length) (lo := some (.int .i64 k)) (hi := none) se30 (abound_nat k rfl) rfl (by omega) (by omega)
      simp only [List.take_length] at s0
      rw [e] at hK
      refine WC_of_body hT Try.func53 rfl (by simp [Try.f53]) (by simp [Try.f53]) (wx_sound hT _ ?_)
      simp only [Try.f53]
      repeat' (first | simp only [go_sem, Nat.reduceLT, Nat.reduceEqDiff, Nat.reduceAdd, Nat.reduceMul, Nat.reduceSub, Nat.reduceLeDiff, Int.reduceToNat, Int.reduceNeg, Int.reduceLT, Int.reduceLE, Int.reduceEq, reduceCtorEq, Int.natCast_zero, Int.natCast_one, Int.cast_ofNat_Int, Bool.not_not, false_eq_decide, true_eq_decide, hread0, hreadk, read_cons0, read_consk, astore_h0, astore_hk, hget0, hgetk, hset0, hsetk, hlen, hcat, Nat.add_assoc, Nat.add_zero, Nat.zero_add, List.length_append, and_true, true_and, AV.flat, hb, get_app hb, read_get hb, read_app hb, astore_get hb, astore_app hb, get_set hb, get_set_app hb, read_set hb, read_set_app hb, astore_set hb, astore_set_app hb, List.set_set, hget0s, hgetks, hread0s, hreadks, List.length_set, *, -hK, -rp] | refine WC.call (rp _) ?_ | with_reducible refine IfB_dec (fun h => ?_) (fun h => ?_) | with_reducible refine Guard_dec (fun h => ?_) (fun h => ?_) | with_reducible refine Guard_ndec (fun h => ?_) (fun h => ?_) | with_reducible refine Guard_not (fun h => ?_) (fun h => ?_) | with_reducible refine IfB_ndec (fun h => ?_) (fun h => ?_) | with_reducible refine IfB_not (fun h => ?_) (fun h => ?_) | with_reducible refine Guard_split (fun h => ?_) (fun h => ?_) | with_reducible refine IfB_split (fun h => ?_) (fun h => ?_))
      exact hK _ _ ⟨rfl, rfl⟩
theorem Text_spec (p : Nat) (l : List UInt8) (bad : Bool) (hl : l.length ≤ 140737488355328) (H : Heap) (hb : H[p]? = some ⟨[Enc.u8.lst l, .bool bad], 0, .full⟩) :
    WC Try.prog 54 [.ptr p 0] H fun r H' => r = .str (textS ⟨l, bad⟩).1 ∧ H' = List.set H p (textS ⟨l, bad⟩).2.blk := by
  refine WC_of_K fun K hK => ?_
  have rp := fun J => refReadP l hl J
  have se := fun (H : Heap) (l : List UInt8) => str_enc (T := T) (H := H) (l := l) se30 tk9 tk5
  cases hr : rd 0 l with
  | none =>
    have e : textS ⟨l, bad⟩ = ([], ⟨l, true⟩) := by unfold textS cutL; simp only [hr]
    rw [e] at hK
    rw [hr] at rp
    unfold rdV at rp
    refine WC_of_body hT Try.func54 rfl (by simp [Try.f54]) (by simp [Try.f54]) (wx_sound hT _ ?_)
    simp only [Try.f54]
    repeat' (first | simp only [go_sem, Nat.reduceLT, Nat.reduceEqDiff, Nat.reduceAdd, Nat.reduceMul, Nat.reduceSub, Nat.reduceLeDiff, Int.reduceToNat, Int.reduceNeg, Int.reduceLT, Int.reduceLE, Int.reduceEq, reduceCtorEq, Int.natCast_zero, Int.natCast_one, Int.cast_ofNat_Int, Bool.not_not, false_eq_decide, true_eq_decide, hread0, hreadk, read_cons0, read_consk, astore_h0, astore_hk, hget0, hgetk, hset0, hsetk, hlen, hcat, Nat.add_assoc, Nat.add_zero, Nat.zero_add, List.length_append, and_true, true_and, AV.flat, hb, get_app hb, read_get hb, read_app hb, astore_get hb, astore_app hb, get_set hb, get_set_app hb, read_set hb, read_set_app hb, astore_set hb, astore_set_app hb, List.set_set, hget0s, hgetks, hread0s, hreadks, List.length_set, *, -hK, -rp] | refine WC.call (rp _) ?_ | with_reducible refine IfB_dec (fun h => ?_) (fun h => ?_) | with_reducible refine Guard_dec (fun h => ?_) (fun h => ?_) | with_reducible refine Guard_ndec (fun h => ?_) (fun h => ?_) | with_reducible refine Guard_not (fun h => ?_) (fun h => ?_) | with_reducible refine IfB_ndec (fun h => ?_) (fun h => ?_) | with_reducible refine IfB_not (fun h => ?_) (fun h => ?_) | with_reducible refine Guard_split (fun h => ?_) (fun h => ?_) | with_reducible refine IfB_split (fun h => ?_) (fun h => ?_))
    exact hK _ _ ⟨rfl, rfl⟩
  | some q =>
    obtain ⟨n, k⟩ := q
    have h64 := rd_lt64 hr
    have hk := rd_len l 0 hr
    simp only at h64 hk
    rw [hr] at rp
    unfold rdV at rp
    have e1 : IntKind.u64.wrap (IntKind.i64.wrap ((l.length : Int) - k)) = ((l.length - k : Nat) : Int) := by
      rw [IntKind.wrap_i64, IntKind.wrap_u64]; omega
    by_cases hc : n ≤ l.length - k
    · have e : textS ⟨l, bad⟩ = ((l.drop k).take n, ⟨l.drop (k + n), bad⟩) := by unfold textS cutL; simp only [hr, hc, if_true]
      have hc' : ¬ ((l.length - k : Nat) : Int) < n := by omega
      have e2 : IntKind.i64.wrap ((k : Int) + IntKind.i64.wrap n) = ((k + n : Nat) : Int) := by
        rw [IntKind.wrap_i64, IntKind.wrap_i64]; omega
      have s1 := fun J => slice_enc (H := J) (E := Enc.u8) (xs := l) (l := k) (u := k + n) (lo := some (.int .i64 k)) (hi := some (.int .i64 ((k + n : Nat) : Int))) se30 (abound_nat k rfl) (abound_nat (k + n) rfl) (by omega) (by omega)
      have s3 := fun J => slice_enc (H := J) (E := Enc.u8) (xs := l) (l := k + n) (u := l.length) (lo := some (.int .i64 ((k + n : Nat) : Int))) (hi := none) se30 (abound_nat (k + n) rfl) rfl (by omega) (by omega)
      simp only [List.take_length] at s3
      have e5 : (l.take (k + n)).drop k = (l.drop k).take n := by rw [List.drop_take, Nat.add_sub_cancel_left]
      rw [e5] at s1
      rw [e] at hK
      refine WC_of_body hT Try.func54 rfl (by simp [Try.f54]) (by simp [Try.f54]) (wx_sound hT _ ?_)
      simp only [Try.f54]
      repeat' (first | simp only [go_sem, Nat.reduceLT, Nat.reduceEqDiff, Nat.reduceAdd, Nat.reduceMul, Nat.reduceSub, Nat.reduceLeDiff, Int.reduceToNat, Int.reduceNeg, Int.reduceLT, Int.reduceLE, Int.reduceEq, reduceCtorEq, Int.natCast_zero, Int.natCast_one, Int.cast_ofNat_Int, Bool.not_not, false_eq_decide, true_eq_decide, hread0, hreadk, read_cons0, read_consk, astore_h0, astore_hk, hget0, hgetk, hset0, hsetk, hlen, hcat, Nat.add_assoc, Nat.add_zero, Nat.zero_add, List.length_append, and_true, true_and, AV.flat, hb, get_app hb, read_get hb, read_app hb, astore_get hb, astore_app hb, get_set hb, get_set_app hb, read_set hb, read_set_app hb, astore_set hb, astore_set_app hb, List.set_set, hget0s, hgetks, hread0s, hreadks, List.length_set, *, -hK, -rp, -e5] | refine WC.call (rp _) ?_ | with_reducible refine IfB_dec (fun h => ?_) (fun h => ?_) | with_reducible refine Guard_dec (fun h => ?_) (fun h => ?_) | with_reducible refine Guard_ndec (fun h => ?_) (fun h => ?_) | with_reducible refine Guard_not (fun h => ?_) (fun h => ?_) | with_reducible refine IfB_ndec (fun h => ?_) (fun h => ?_) | with_reducible refine IfB_not (fun h => ?_) (fun h => ?_) | with_reducible refine Guard_split (fun h => ?_) (fun h => ?_) | with_reducible refine IfB_split (fun h => ?_) (fun h => ?_))
      exact hK _ _ ⟨rfl, rfl⟩
    · have e : textS ⟨l, bad⟩ = ([], ⟨l, true⟩) := by unfold textS cutL; simp only [hr, hc, if_false]
      have hc' : ((l.length - k : Nat) : Int) < n := by omega
      rw [e] at hK
      refine WC_of_body hT Try.func54 rfl (by simp [Try.f54]) (by simp [Try.f54]) (wx_sound hT _ ?_)
      simp only [Try.f54]
      repeat' (first | simp only [go_sem, Nat.reduceLT, Nat.reduceEqDiff, Nat.reduceAdd, Nat.reduceMul, Nat.reduceSub, Nat.reduceLeDiff, Int.reduceToNat, Int.reduceNeg, Int.reduceLT, Int.reduceLE, Int.reduceEq, reduceCtorEq, Int.natCast_zero, Int.natCast_one, Int.cast_ofNat_Int, Bool.not_not, false_eq_decide, true_eq_decide, hread0, hreadk, read_cons0, read_consk, astore_h0, astore_hk, hget0, hgetk, hset0, hsetk, hlen, hcat, Nat.add_assoc, Nat.add_zero, Nat.zero_add, List.length_append, and_true, true_and, AV.flat, hb, get_app hb, read_get hb, read_app hb, astore_get hb, astore_app hb, get_set hb, get_set_app hb, read_set hb, read_set_app hb, astore_set hb, astore_set_app hb, List.set_set, hget0s, hgetks, hread0s, hreadks, List.length_set, *, -hK, -rp] | refine WC.call (rp _) ?_ | with_reducible refine IfB_dec (fun h => ?_) (fun h => ?_) | with_reducible refine Guard_dec (fun h => ?_) (fun h => ?_) | with_reducible refine Guard_ndec (fun h => ?_) (fun h => ?_) | with_reducible refine Guard_not (fun h => ?_) (fun h => ?_) | with_reducible refine IfB_ndec (fun h => ?_) (fun h => ?_) | with_reducible refine IfB_not (fun h => ?_) (fun h => ?_) | with_reducible refine Guard_split (fun h => ?_) (fun h => ?_) | with_reducible refine IfB_split (fun h => ?_) (fun h => ?_))
      exact hK _ _ ⟨rfl, rfl⟩
theorem Byte_spec (p : Nat) (l : List UInt8) (bad : Bool) (hl : l.length ≤ 140737488355328) (H : Heap) (hb : H[p]? = some ⟨[Enc.u8.lst l, .bool bad], 0, .full⟩) :
    WC Try.prog 52 [.ptr p 0] H fun r H' => r = .int .u8 (byteS ⟨l, bad⟩).1.toNat ∧ H' = List.set H p (byteS ⟨l, bad⟩).2.blk := by
  refine WC_of_K fun K hK => ?_
  cases l with
  | nil =>
    have e : byteS ⟨[], bad⟩ = (0, ⟨[], true⟩) := rfl
    rw [e] at hK
    refine WC_of_body hT Try.func52 rfl (by simp [Try.f52]) (by simp [Try.f52]) (wx_sound hT _ ?_)
    simp only [Try.f52]
    repeat' (first | simp only [go_sem, Nat.reduceLT, Nat.reduceEqDiff, Nat.reduceAdd, Nat.reduceMul, Nat.reduceSub, Nat.reduceLeDiff, Int.reduceToNat, Int.reduceNeg, Int.reduceLT, Int.reduceLE, Int.reduceEq, reduceCtorEq, Int.natCast_zero, Int.natCast_one, Int.cast_ofNat_Int, Bool.not_not, false_eq_decide, true_eq_decide, hread0, hreadk, read_cons0, read_consk, astore_h0, astore_hk, hget0, hgetk, hset0, hsetk, hlen, hcat, Nat.add_assoc, Nat.add_zero, Nat.zero_add, List.length_append, and_true, true_and, AV.flat, hb, get_app hb, read_get hb, read_app hb, astore_get hb, astore_app hb, get_set hb, get_set_app hb, read_set hb, read_set_app hb, astore_set hb, astore_set_app hb, List.set_set, hget0s, hgetks, hread0s, hreadks, List.length_set, *, -hK] | with_reducible refine IfB_dec (fun h => ?_) (fun h => ?_) | with_reducible refine Guard_dec (fun h => ?_) (fun h => ?_) | with_reducible refine Guard_ndec (fun h => ?_) (fun h => ?_) | with_reducible refine Guard_not (fun h => ?_) (fun h => ?_) | with_reducible refine IfB_ndec (fun h => ?_) (fun h => ?_) | with_reducible refine IfB_not (fun h => ?_) (fun h => ?_) | with_reducible refine Guard_split (fun h => ?_) (fun h => ?_) | with_reducible refine IfB_split (fun h => ?_) (fun h => ?_))
    exact hK _ _ ⟨rfl, rfl⟩
  | cons x l =>
    have e : byteS ⟨x :: l, bad⟩ = (x, ⟨l, bad⟩) := rfl
    rw [e] at hK
    have hn : ¬ ((x :: l).length : Int) = 0 := by simp; omega
    have e1 : aindexAddr T 30 (Enc.u8.lst (x :: l)) (.int .i64 0) = some (.cptr (Enc.u8.cells x)) := at_enc (E := Enc.u8) (T := T) (xs := x :: l) se30 (i := 0) (by simp) (k := .i64) (z := 0) rfl
    have s0 : ∀ J, aslice T J 30 (Enc.u8.lst (x :: l)) (some (.int .i64 1)) none none = some (Enc.u8.lst l) := fun J => by
      have := slice_enc (H := J) (E := Enc.u8) (xs := x :: l) (l := 1) (u := (x :: l).length) (lo := some (.int .i64 1)) (hi := none) se30 (abound_nat 1 rfl) rfl (by simp) (by simp)
      rw [List.take_length] at this
      exact this
    generalize hg : (x :: l) = xl at *
    refine WC_of_body hT Try.func52 rfl (by simp [Try.f52]) (by simp [Try.f52]) (wx_sound hT _ ?_)
    simp only [Try.f52]
    repeat' (first | simp only [go_sem, Nat.reduceLT, Nat.reduceEqDiff, Nat.reduceAdd, Nat.reduceMul, Nat.reduceSub, Nat.reduceLeDiff, Int.reduceToNat, Int.reduceNeg, Int.reduceLT, Int.reduceLE, Int.reduceEq, reduceCtorEq, Int.natCast_zero, Int.natCast_one, Int.cast_ofNat_Int, Bool.not_not, false_eq_decide, true_eq_decide, hread0, hreadk, read_cons0, read_consk, astore_h0, astore_hk, hget0, hgetk, hset0, hsetk, hlen, hcat, Nat.add_assoc, Nat.add_zero, Nat.zero_add, List.length_append, and_true, true_and, AV.flat, hb, get_app hb, read_get hb, read_app hb, astore_get hb, astore_app hb, get_set hb, get_set_app hb, read_set hb, read_set_app hb, astore_set hb, astore_set_app hb, List.set_set, hget0s, hgetks, hread0s, hreadks, List.length_set, u8_cells, *, -hK, -hg] | with_reducible refine IfB_dec (fun h => ?_) (fun h => ?_) | with_reducible refine Guard_dec (fun h => ?_) (fun h => ?_) | with_reducible refine Guard_ndec (fun h => ?_) (fun h => ?_) | with_reducible refine Guard_not (fun h => ?_) (fun h => ?_) | with_reducible refine IfB_ndec (fun h => ?_) (fun h => ?_) | with_reducible refine IfB_not (fun h => ?_) (fun h => ?_) | with_reducible refine Guard_split (fun h => ?_) (fun h => ?_) | with_reducible refine IfB_split (fun h => ?_) (fun h => ?_))
    exact hK _ _ ⟨rfl, rfl⟩
end Go.Proofs.Ytakmlfbejbelaaa
