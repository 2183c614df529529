import Derived.Test.YtchpmfpmnhopoaaRRBinD
set_option linter.unusedSimpArgs false
set_option linter.unusedVariables false
set_option maxRecDepth 100000
set_option maxHeartbeats 4000000
namespace Go.Proofs.YtchpmfpmnhopoaaRR
open Go Go.Proofs Go.Proofs.PI
theorem shaped_facts {c : Cmd} (h : shapedB c = true) : (∀ k ∈ c.keys, k.length ≤ 32) ∧ 1 ≤ c.kind ∧ c.kind ≤ 11 ∧ 0 ≤ c.ten ∧ c.ten < 4 ∧ c.keys.length ≤ 8 ∧ c.val.length ≤ 512 ∧ 0 ≤ c.for_ ∧ c.for_ ≤ 1099511627776 := by
  simp only [shapedB, Bool.and_eq_true, decide_eq_true_eq, List.all_eq_true] at h
  refine ⟨fun k hk => ?_, h.2⟩
  have := h.1 k hk
  simp only [keyB, decide_eq_true_eq] at this
  exact this.2
theorem commandL_len (c : Cmd) (ho : c.Ok) : (commandL c).1.length ≤ 1000 := by
  unfold commandL
  split
  · rename_i hs
    obtain ⟨h0, h1, h2, h3, h4, h5, h6, h7, h8⟩ := shaped_facts hs
    have a1 := numsL_len [c.ten, (c.keys.length : Int)]
    have a2 := textsL_len (l := c.keys) (m := 32) h0 (by omega)
    have a3 := textsL_len (l := [c.val]) (m := 512) (by simpa using h6) (by omega)
    have a4 := numsL_len [c.flags, c.for_]
    have a5 := small_len10 (n := c.uniq.toNat) (by have := ho.uniq; omega)
    have a6 := small_len10 (n := c.by_.toNat) (by have := ho.by_; omega)
    simp only [List.length_cons, List.length_nil] at a1 a2 a3 a4
    simp only [cmdL, List.length_append, List.length_cons, List.length_nil]
    omega
  · simp
/-! ### requests as bytes -/
structure Req where
  kind : Int
  cmd : Cmd
  ten : Int
  sec : List UInt8
  on : Bool
  close : Bool
def Req.av (q : Req) : AV := .agg [.int .u8 q.kind, .int .u8 q.cmd.kind, .int .i64 q.cmd.ten, Enc.str.lst q.cmd.keys, .str q.cmd.val, .int .u32 q.cmd.flags, .int .i64 q.cmd.for_, .int .u64 q.cmd.uniq, .int .u64 q.cmd.by_, .int .i64 q.ten, .str q.sec, .bool q.on, .bool q.close]
def Req.bad (q : Req) : Prop := q.kind < 1 ∨ q.kind > 5 ∨ q.close = true ∨ (q.on = true ∧ ¬ q.kind = 3) ∨ (¬ q.kind = 1 ∧ ¬ q.cmd = cmd0) ∨ (q.kind = 2 ∧ (q.ten < 0 ∨ q.ten ≥ 4 ∨ q.sec.length < 1 ∨ q.sec.length > 16)) ∨ (¬ q.kind = 2 ∧ (¬ q.ten = 0 ∨ ¬ q.sec = []))
def Req.body (q : Req) : List UInt8 := if q.kind = 1 then (commandL q.cmd).1 else if q.kind = 2 then [UInt8.ofNat q.ten.toNat] ++ q.sec else if q.kind = 3 then [if q.on = true then 1 else 0] else []
open Classical in
noncomputable def writeL (q : Req) : List UInt8 × Int :=
  if q.bad then ([], 8) else if q.kind = 1 ∧ cmdB q.cmd = false then ([], 100) else if q.kind = 1 ∧ ¬ q.cmd.ten = 0 then ([], 8) else (packetL 177 (UInt8.ofNat q.kind.toNat) q.body, 0)
theorem writeL_bad {q : Req} (h : q.bad) : writeL q = ([], 8) := by unfold writeL; rw [if_pos h]
theorem zero_spec (c : Cmd) (H : Heap) : WC Try.prog 17 [c.av] H fun r H' => r = .bool (decide (c = cmd0)) ∧ H' = H := by
  refine WC_val fun K hK => ?_
  obtain ⟨k1, t1, q1, v1, f1, o1, u1, y1⟩ := c
  have hq : (q1 = []) = (q1.length = 0) := by rw [List.length_eq_zero_iff]
  unfold Cmd.av
  refine WC_of_body hT Try.func17 rfl (by simp [Try.f17]) (by simp [Try.f17]) (wx_sound hT _ ?_)
  simp only [Try.f17]
  repeat' (first | simp only [go_sem, Nat.reduceLT, Nat.reduceEqDiff, Nat.reduceAdd, Nat.reduceMul, Nat.reduceSub, Nat.reduceLeDiff, Int.reduceToNat, Int.reduceNeg, Int.reduceLT, Int.reduceLE, Int.reduceEq, reduceCtorEq, Int.natCast_zero, Int.natCast_one, Int.cast_ofNat_Int, Bool.not_not, false_eq_decide, true_eq_decide, hread0, hreadk, read_cons0, read_consk, astore_h0, astore_hk, hget0, hgetk, hset0, hsetk, hlen, hcat, Nat.add_assoc, Nat.add_zero, Nat.zero_add, List.length_append, and_true, true_and, AV.flat, *, -hK, -hq] | with_reducible refine IfB_dec (fun h => ?_) (fun h => ?_) | with_reducible refine Guard_dec (fun h => ?_) (fun h => ?_) | with_reducible refine Guard_ndec (fun h => ?_) (fun h => ?_) | with_reducible refine Guard_not (fun h => ?_) (fun h => ?_) | with_reducible refine IfB_ndec (fun h => ?_) (fun h => ?_) | with_reducible refine IfB_not (fun h => ?_) (fun h => ?_) | with_reducible refine Guard_split (fun h => ?_) (fun h => ?_) | with_reducible refine IfB_split (fun h => ?_) (fun h => ?_))
  all_goals
    refine hK _ _ (Thaw.of_eq ?_ rfl) (Keep.app _ _ _)
    simp only [cmd0, Cmd.mk.injEq, hq]
    first
      | (subst_vars; simp; done)
      | (subst_vars; simp_all; done)
      | (trace_state; sorry)
theorem Keep.of2 (H : Heap) (B C : List Blk) : Keep none (H ++ B : List Blk) (H ++ (B ++ C) : List Blk) := by rw [← List.append_assoc]; exact Keep.app _ _ _
theorem bs_one {J : Heap} {b : Nat} {x : UInt8} (h : J[b]? = some ⟨[.int .u8 x.toNat], 1, .full⟩) : Bs J (.sl b 0 1 none) [x] :=
  ⟨rfl, .inr (.inr ⟨b, 0, none, _, rfl, by simp, h, rfl, fun _ => rfl, by simp, by simp [byc]⟩)⟩
theorem ob_one {J : Heap} {m b : Nat} {x : UInt8} (hm : m ≤ b) (h : J[b]? = some ⟨[.int .u8 x.toNat], 1, .full⟩) : Ob m J (.sl b 0 1 none) [x] := Own.whole (st := .full) hm h rfl rfl
theorem write_spec (q : Req) (hk : q.cmd.keys.length ≤ 40) (hs : q.sec.length ≤ 1000) (ho : q.cmd.Ok) (H : Heap) : WC Try.prog 10 [q.av] H fun r H' => r = .tup [Enc.u8.lst (writeL q).1, .int .i64 (writeL q).2] ∧ H' = H := by
  refine WC_val fun K hK => ?_
  obtain ⟨kd, cm, tn, sc, on, cl⟩ := q
  simp only at hk hs ho
  have zs := fun J => zero_spec cm J
  have oc := fun J => ordCheck_spec cm (by omega) J
  have cc := fun J => command_own cm ho (by omega) J
  have clen := commandL_len cm ho
  unfold Cmd.av at zs oc cc
  unfold Req.av
  simp only
  by_cases b1 : kd < 1
  · skip
    rw [writeL_bad (by unfold Req.bad; exact .inl b1)] at hK
    refine WC_of_body hT Try.func10 rfl (by simp [Try.f10]) (by simp [Try.f10]) (wx_sound hT _ ?_)
    simp only [Try.f10]
    repeat' (first | simp only [go_sem, Nat.reduceLT, Nat.reduceEqDiff, Nat.reduceAdd, Nat.reduceMul, Nat.reduceSub, Nat.reduceLeDiff, Int.reduceToNat, Int.reduceNeg, Int.reduceLT, Int.reduceLE, Int.reduceEq, reduceCtorEq, Int.natCast_zero, Int.natCast_one, Int.cast_ofNat_Int, Bool.not_not, false_eq_decide, true_eq_decide, hread0, hreadk, read_cons0, read_consk, astore_h0, astore_hk, hget0, hgetk, hset0, hsetk, hlen, hcat, Nat.add_assoc, Nat.add_zero, Nat.zero_add, List.length_append, and_true, true_and, AV.flat, *, -hK, -zs] | refine WC.call (zs _) ?_ | with_reducible refine IfB_dec (fun h => ?_) (fun h => ?_) | with_reducible refine Guard_dec (fun h => ?_) (fun h => ?_) | with_reducible refine Guard_ndec (fun h => ?_) (fun h => ?_) | with_reducible refine Guard_not (fun h => ?_) (fun h => ?_) | with_reducible refine IfB_ndec (fun h => ?_) (fun h => ?_) | with_reducible refine IfB_not (fun h => ?_) (fun h => ?_) | with_reducible refine Guard_split (fun h => ?_) (fun h => ?_) | with_reducible refine IfB_split (fun h => ?_) (fun h => ?_))
    all_goals exact hK _ _ (Thaw.tup_row ⟨.nils, .int _ _, trivial⟩) (Keep.app _ _ _)
  by_cases b2 : kd > 5
  · skip
    rw [writeL_bad (by unfold Req.bad; exact .inr (.inl b2))] at hK
    refine WC_of_body hT Try.func10 rfl (by simp [Try.f10]) (by simp [Try.f10]) (wx_sound hT _ ?_)
    simp only [Try.f10]
    repeat' (first | simp only [go_sem, Nat.reduceLT, Nat.reduceEqDiff, Nat.reduceAdd, Nat.reduceMul, Nat.reduceSub, Nat.reduceLeDiff, Int.reduceToNat, Int.reduceNeg, Int.reduceLT, Int.reduceLE, Int.reduceEq, reduceCtorEq, Int.natCast_zero, Int.natCast_one, Int.cast_ofNat_Int, Bool.not_not, false_eq_decide, true_eq_decide, hread0, hreadk, read_cons0, read_consk, astore_h0, astore_hk, hget0, hgetk, hset0, hsetk, hlen, hcat, Nat.add_assoc, Nat.add_zero, Nat.zero_add, List.length_append, and_true, true_and, AV.flat, *, -hK, -zs] | refine WC.call (zs _) ?_ | with_reducible refine IfB_dec (fun h => ?_) (fun h => ?_) | with_reducible refine Guard_dec (fun h => ?_) (fun h => ?_) | with_reducible refine Guard_ndec (fun h => ?_) (fun h => ?_) | with_reducible refine Guard_not (fun h => ?_) (fun h => ?_) | with_reducible refine IfB_ndec (fun h => ?_) (fun h => ?_) | with_reducible refine IfB_not (fun h => ?_) (fun h => ?_) | with_reducible refine Guard_split (fun h => ?_) (fun h => ?_) | with_reducible refine IfB_split (fun h => ?_) (fun h => ?_))
    all_goals exact hK _ _ (Thaw.tup_row ⟨.nils, .int _ _, trivial⟩) (Keep.app _ _ _)
  cases cl with
  | true =>
    rw [writeL_bad (by unfold Req.bad; exact .inr (.inr (.inl rfl)))] at hK
    refine WC_of_body hT Try.func10 rfl (by simp [Try.f10]) (by simp [Try.f10]) (wx_sound hT _ ?_)
    simp only [Try.f10]
    repeat' (first | simp only [go_sem, Nat.reduceLT, Nat.reduceEqDiff, Nat.reduceAdd, Nat.reduceMul, Nat.reduceSub, Nat.reduceLeDiff, Int.reduceToNat, Int.reduceNeg, Int.reduceLT, Int.reduceLE, Int.reduceEq, reduceCtorEq, Int.natCast_zero, Int.natCast_one, Int.cast_ofNat_Int, Bool.not_not, false_eq_decide, true_eq_decide, hread0, hreadk, read_cons0, read_consk, astore_h0, astore_hk, hget0, hgetk, hset0, hsetk, hlen, hcat, Nat.add_assoc, Nat.add_zero, Nat.zero_add, List.length_append, and_true, true_and, AV.flat, *, -hK, -zs] | refine WC.call (zs _) ?_ | with_reducible refine IfB_dec (fun h => ?_) (fun h => ?_) | with_reducible refine Guard_dec (fun h => ?_) (fun h => ?_) | with_reducible refine Guard_ndec (fun h => ?_) (fun h => ?_) | with_reducible refine Guard_not (fun h => ?_) (fun h => ?_) | with_reducible refine IfB_ndec (fun h => ?_) (fun h => ?_) | with_reducible refine IfB_not (fun h => ?_) (fun h => ?_) | with_reducible refine Guard_split (fun h => ?_) (fun h => ?_) | with_reducible refine IfB_split (fun h => ?_) (fun h => ?_))
    all_goals exact hK _ _ (Thaw.tup_row ⟨.nils, .int _ _, trivial⟩) (Keep.app _ _ _)
  | false =>
  by_cases b4 : on = true ∧ ¬ kd = 3
  · obtain ⟨rfl, b5⟩ := b4
    rw [writeL_bad (by unfold Req.bad; exact .inr (.inr (.inr (.inl ⟨rfl, b5⟩))))] at hK
    refine WC_of_body hT Try.func10 rfl (by simp [Try.f10]) (by simp [Try.f10]) (wx_sound hT _ ?_)
    simp only [Try.f10]
    repeat' (first | simp only [go_sem, Nat.reduceLT, Nat.reduceEqDiff, Nat.reduceAdd, Nat.reduceMul, Nat.reduceSub, Nat.reduceLeDiff, Int.reduceToNat, Int.reduceNeg, Int.reduceLT, Int.reduceLE, Int.reduceEq, reduceCtorEq, Int.natCast_zero, Int.natCast_one, Int.cast_ofNat_Int, Bool.not_not, false_eq_decide, true_eq_decide, hread0, hreadk, read_cons0, read_consk, astore_h0, astore_hk, hget0, hgetk, hset0, hsetk, hlen, hcat, Nat.add_assoc, Nat.add_zero, Nat.zero_add, List.length_append, and_true, true_and, AV.flat, *, -hK, -zs] | refine WC.call (zs _) ?_ | with_reducible refine IfB_dec (fun h => ?_) (fun h => ?_) | with_reducible refine Guard_dec (fun h => ?_) (fun h => ?_) | with_reducible refine Guard_ndec (fun h => ?_) (fun h => ?_) | with_reducible refine Guard_not (fun h => ?_) (fun h => ?_) | with_reducible refine IfB_ndec (fun h => ?_) (fun h => ?_) | with_reducible refine IfB_not (fun h => ?_) (fun h => ?_) | with_reducible refine Guard_split (fun h => ?_) (fun h => ?_) | with_reducible refine IfB_split (fun h => ?_) (fun h => ?_))
    all_goals exact hK _ _ (Thaw.tup_row ⟨.nils, .int _ _, trivial⟩) (Keep.app _ _ _)
  have bk : kd = 1 ∨ kd = 2 ∨ kd = 3 ∨ kd = 4 ∨ kd = 5 := by omega
  clear b1 b2
  by_cases k1 : kd = 1
  · subst k1
    have hon : on = false := by cases on <;> simp_all
    subst hon
    clear b4 bk zs
    have zs := oc
    by_cases t0 : tn = 0
    rotate_left
    · skip
      rw [writeL_bad (by unfold Req.bad; exact .inr (.inr (.inr (.inr (.inr (.inr ⟨by show ¬ (1 : Int) = 2; omega, .inl t0⟩))))))] at hK
      refine WC_of_body hT Try.func10 rfl (by simp [Try.f10]) (by simp [Try.f10]) (wx_sound hT _ ?_)
      simp only [Try.f10]
      repeat' (first | simp only [go_sem, Nat.reduceLT, Nat.reduceEqDiff, Nat.reduceAdd, Nat.reduceMul, Nat.reduceSub, Nat.reduceLeDiff, Int.reduceToNat, Int.reduceNeg, Int.reduceLT, Int.reduceLE, Int.reduceEq, reduceCtorEq, Int.natCast_zero, Int.natCast_one, Int.cast_ofNat_Int, Bool.not_not, false_eq_decide, true_eq_decide, hread0, hreadk, read_cons0, read_consk, astore_h0, astore_hk, hget0, hgetk, hset0, hsetk, hlen, hcat, Nat.add_assoc, Nat.add_zero, Nat.zero_add, List.length_append, and_true, true_and, AV.flat, *, -hK, -zs] | refine WC.call (zs _) ?_ | with_reducible refine IfB_dec (fun h => ?_) (fun h => ?_) | with_reducible refine Guard_dec (fun h => ?_) (fun h => ?_) | with_reducible refine Guard_ndec (fun h => ?_) (fun h => ?_) | with_reducible refine Guard_not (fun h => ?_) (fun h => ?_) | with_reducible refine IfB_ndec (fun h => ?_) (fun h => ?_) | with_reducible refine IfB_not (fun h => ?_) (fun h => ?_) | with_reducible refine Guard_split (fun h => ?_) (fun h => ?_) | with_reducible refine IfB_split (fun h => ?_) (fun h => ?_))
      all_goals exact hK _ _ (Thaw.tup_row ⟨.nils, .int _ _, trivial⟩) (Keep.app _ _ _)
    by_cases s0 : sc = []
    rotate_left
    · skip
      rw [writeL_bad (by unfold Req.bad; exact .inr (.inr (.inr (.inr (.inr (.inr ⟨by show ¬ (1 : Int) = 2; omega, .inr s0⟩))))))] at hK
      refine WC_of_body hT Try.func10 rfl (by simp [Try.f10]) (by simp [Try.f10]) (wx_sound hT _ ?_)
      simp only [Try.f10]
      repeat' (first | simp only [go_sem, Nat.reduceLT, Nat.reduceEqDiff, Nat.reduceAdd, Nat.reduceMul, Nat.reduceSub, Nat.reduceLeDiff, Int.reduceToNat, Int.reduceNeg, Int.reduceLT, Int.reduceLE, Int.reduceEq, reduceCtorEq, Int.natCast_zero, Int.natCast_one, Int.cast_ofNat_Int, Bool.not_not, false_eq_decide, true_eq_decide, hread0, hreadk, read_cons0, read_consk, astore_h0, astore_hk, hget0, hgetk, hset0, hsetk, hlen, hcat, Nat.add_assoc, Nat.add_zero, Nat.zero_add, List.length_append, and_true, true_and, AV.flat, *, -hK, -zs] | refine WC.call (zs _) ?_ | with_reducible refine IfB_dec (fun h => ?_) (fun h => ?_) | with_reducible refine Guard_dec (fun h => ?_) (fun h => ?_) | with_reducible refine Guard_ndec (fun h => ?_) (fun h => ?_) | with_reducible refine Guard_not (fun h => ?_) (fun h => ?_) | with_reducible refine IfB_ndec (fun h => ?_) (fun h => ?_) | with_reducible refine IfB_not (fun h => ?_) (fun h => ?_) | with_reducible refine Guard_split (fun h => ?_) (fun h => ?_) | with_reducible refine IfB_split (fun h => ?_) (fun h => ?_))
      all_goals exact hK _ _ (Thaw.tup_row ⟨.nils, .int _ _, trivial⟩) (Keep.app _ _ _)
    subst t0
    subst s0
    have hnb : ¬ Req.bad ⟨1, cm, 0, [], false, false⟩ := by unfold Req.bad; simp
    unfold writeL at hK
    rw [if_neg hnb] at hK
    unfold ordE at zs
    cases hB : cmdB cm with
    | false =>
      rw [if_pos ⟨rfl, hB⟩] at hK
      rw [hB] at zs
      refine WC_of_body hT Try.func10 rfl (by simp [Try.f10]) (by simp [Try.f10]) (wx_sound hT _ ?_)
      simp only [Try.f10]
      repeat' (first | simp only [go_sem, Nat.reduceLT, Nat.reduceEqDiff, Nat.reduceAdd, Nat.reduceMul, Nat.reduceSub, Nat.reduceLeDiff, Int.reduceToNat, Int.reduceNeg, Int.reduceLT, Int.reduceLE, Int.reduceEq, reduceCtorEq, Int.natCast_zero, Int.natCast_one, Int.cast_ofNat_Int, Bool.not_not, false_eq_decide, true_eq_decide, hread0, hreadk, read_cons0, read_consk, astore_h0, astore_hk, hget0, hgetk, hset0, hsetk, hlen, hcat, Nat.add_assoc, Nat.add_zero, Nat.zero_add, List.length_append, and_true, true_and, AV.flat, *, -hK, -zs] | refine WC.call (zs _) ?_ | with_reducible refine IfB_dec (fun h => ?_) (fun h => ?_) | with_reducible refine Guard_dec (fun h => ?_) (fun h => ?_) | with_reducible refine Guard_ndec (fun h => ?_) (fun h => ?_) | with_reducible refine Guard_not (fun h => ?_) (fun h => ?_) | with_reducible refine IfB_ndec (fun h => ?_) (fun h => ?_) | with_reducible refine IfB_not (fun h => ?_) (fun h => ?_) | with_reducible refine Guard_split (fun h => ?_) (fun h => ?_) | with_reducible refine IfB_split (fun h => ?_) (fun h => ?_))
      all_goals exact hK _ _ (Thaw.tup_row ⟨.nils, .int _ _, trivial⟩) (Keep.app _ _ _)
    | true =>
    rw [if_neg (fun h => by rw [hB] at h; simp at h)] at hK
    rw [hB, if_pos rfl] at zs
    by_cases c0 : cm.ten = 0
    rotate_left
    · rw [if_pos ⟨rfl, c0⟩] at hK
      refine WC_of_body hT Try.func10 rfl (by simp [Try.f10]) (by simp [Try.f10]) (wx_sound hT _ ?_)
      simp only [Try.f10]
      repeat' (first | simp only [go_sem, Nat.reduceLT, Nat.reduceEqDiff, Nat.reduceAdd, Nat.reduceMul, Nat.reduceSub, Nat.reduceLeDiff, Int.reduceToNat, Int.reduceNeg, Int.reduceLT, Int.reduceLE, Int.reduceEq, reduceCtorEq, Int.natCast_zero, Int.natCast_one, Int.cast_ofNat_Int, Bool.not_not, false_eq_decide, true_eq_decide, hread0, hreadk, read_cons0, read_consk, astore_h0, astore_hk, hget0, hgetk, hset0, hsetk, hlen, hcat, Nat.add_assoc, Nat.add_zero, Nat.zero_add, List.length_append, and_true, true_and, AV.flat, *, -hK, -zs] | refine WC.call (zs _) ?_ | with_reducible refine IfB_dec (fun h => ?_) (fun h => ?_) | with_reducible refine Guard_dec (fun h => ?_) (fun h => ?_) | with_reducible refine Guard_ndec (fun h => ?_) (fun h => ?_) | with_reducible refine Guard_not (fun h => ?_) (fun h => ?_) | with_reducible refine IfB_ndec (fun h => ?_) (fun h => ?_) | with_reducible refine IfB_not (fun h => ?_) (fun h => ?_) | with_reducible refine Guard_split (fun h => ?_) (fun h => ?_) | with_reducible refine IfB_split (fun h => ?_) (fun h => ?_))
      all_goals exact hK _ _ (Thaw.tup_row ⟨.nils, .int _ _, trivial⟩) (Keep.app _ _ _)
    rw [if_neg (fun h => h.2 c0)] at hK
    have ps := fun v l hl J hv => packet1_spec 177 1 v l hl J hv
    rw [show ((177 : UInt8).toNat : Int) = 177 from rfl, show ((1 : UInt8).toNat : Int) = 1 from rfl] at ps
    clear hB hnb
    obtain ⟨ck, ct, cks, cv, cf, cfo, cu, cb⟩ := cm
    simp only at c0 zs cc hk
    subst c0
    simp only [Req.body, if_true] at hK
    clear ho oc
    generalize commandL ⟨ck, 0, cks, cv, cf, cfo, cu, cb⟩ = ce at *
    obtain ⟨b, e⟩ := ce
    simp only at clen cc
    refine WC_of_body hT Try.func10 rfl (by simp [Try.f10]) (by simp [Try.f10]) (wx_sound hT _ ?_)
    simp only [Try.f10]
    repeat' (first | simp only [go_sem, Nat.reduceLT, Nat.reduceEqDiff, Nat.reduceAdd, Nat.reduceMul, Nat.reduceSub, Nat.reduceLeDiff, Int.reduceToNat, Int.reduceNeg, Int.reduceLT, Int.reduceLE, Int.reduceEq, reduceCtorEq, Int.natCast_zero, Int.natCast_one, Int.cast_ofNat_Int, Bool.not_not, false_eq_decide, true_eq_decide, hread0, hreadk, read_cons0, read_consk, astore_h0, astore_hk, hget0, hgetk, hset0, hsetk, hlen, hcat, Nat.add_assoc, Nat.add_zero, Nat.zero_add, List.length_append, and_true, true_and, AV.flat, *, -hK, -zs, -ps, -cc] | refine WC.call (zs _) ?_ | with_reducible refine IfB_dec (fun h => ?_) (fun h => ?_) | with_reducible refine Guard_dec (fun h => ?_) (fun h => ?_) | with_reducible refine Guard_ndec (fun h => ?_) (fun h => ?_) | with_reducible refine Guard_not (fun h => ?_) (fun h => ?_) | with_reducible refine IfB_ndec (fun h => ?_) (fun h => ?_) | with_reducible refine IfB_not (fun h => ?_) (fun h => ?_) | with_reducible refine Guard_split (fun h => ?_) (fun h => ?_) | with_reducible refine IfB_split (fun h => ?_) (fun h => ?_))
    refine (cc _).mono ?_
    rintro r H1 ⟨⟨w, rfl, o1⟩, k1⟩
    have hb0 := k1.get (b := H.length) (B := ⟨[.int .u8 1, .int .u8 ck, .int .i64 0, Enc.str.lst cks, .str cv, .int .u32 cf, .int .i64 cfo, .int .u64 cu, .int .u64 cb, .int .i64 0, .str [], .bool false, .bool false], 0, .full⟩) (by rw [hget0]; rfl) (by simp)
    have hw := Own.one o1
    have hl1 := k1.len
    rw [List.length_append] at hl1
    repeat' (first | simp only [go_sem, Nat.reduceLT, Nat.reduceEqDiff, Nat.reduceAdd, Nat.reduceMul, Nat.reduceSub, Nat.reduceLeDiff, Int.reduceToNat, Int.reduceNeg, Int.reduceLT, Int.reduceLE, Int.reduceEq, reduceCtorEq, Int.natCast_zero, Int.natCast_one, Int.cast_ofNat_Int, Bool.not_not, false_eq_decide, true_eq_decide, hread0, hreadk, read_cons0, read_consk, astore_h0, astore_hk, hget0, hgetk, hset0, hsetk, hlen, hcat, Nat.add_assoc, Nat.add_zero, Nat.zero_add, List.length_append, and_true, true_and, AV.flat, hb0, get_app hb0, read_get hb0, read_app hb0, hw, one_solid hw, one_cells hw, *, -hK, -ps, -o1, -k1, -hl1, -zs] | with_reducible refine IfB_dec (fun h => ?_) (fun h => ?_) | with_reducible refine Guard_dec (fun h => ?_) (fun h => ?_) | with_reducible refine Guard_ndec (fun h => ?_) (fun h => ?_) | with_reducible refine Guard_not (fun h => ?_) (fun h => ?_) | with_reducible refine IfB_ndec (fun h => ?_) (fun h => ?_) | with_reducible refine IfB_not (fun h => ?_) (fun h => ?_) | with_reducible refine Guard_split (fun h => ?_) (fun h => ?_) | with_reducible refine IfB_split (fun h => ?_) (fun h => ?_))
    refine (ps w b (by omega) _ o1.bs).mono ?_
    rintro r H2 ⟨o, k⟩
    clear hb0
    repeat' (first | simp only [go_sem, Nat.reduceLT, Nat.reduceEqDiff, Nat.reduceAdd, Nat.reduceMul, Nat.reduceSub, Nat.reduceLeDiff, Int.reduceToNat, Int.reduceNeg, Int.reduceLT, Int.reduceLE, Int.reduceEq, reduceCtorEq, Int.natCast_zero, Int.natCast_one, Int.cast_ofNat_Int, Bool.not_not, false_eq_decide, true_eq_decide, hread0, hreadk, read_cons0, read_consk, astore_h0, astore_hk, hget0, hgetk, hset0, hsetk, hlen, hcat, Nat.add_assoc, Nat.add_zero, Nat.zero_add, List.length_append, and_true, true_and, AV.flat, *, -hK, -ps, -o1, -k1, -hl1, -zs, -o, -k] | with_reducible refine IfB_dec (fun h => ?_) (fun h => ?_) | with_reducible refine Guard_dec (fun h => ?_) (fun h => ?_) | with_reducible refine Guard_ndec (fun h => ?_) (fun h => ?_) | with_reducible refine Guard_not (fun h => ?_) (fun h => ?_) | with_reducible refine IfB_ndec (fun h => ?_) (fun h => ?_) | with_reducible refine IfB_not (fun h => ?_) (fun h => ?_) | with_reducible refine Guard_split (fun h => ?_) (fun h => ?_) | with_reducible refine IfB_split (fun h => ?_) (fun h => ?_))
    exact hK _ _ (Thaw.tup_row ⟨Thaw.ob (Own.mono o (by omega)), .int _ _, trivial⟩) (((Keep.app _ _ _).trans k1).trans k)
  replace bk := bk.resolve_left k1
  clear k1 oc cc clen
  rcases bk with rfl | rfl | rfl | rfl
  · have hon : on = false := by cases on <;> simp_all
    subst hon
    clear b4
    by_cases z0 : cm = cmd0
    rotate_left
    · rw [decide_eq_false z0] at zs
      rw [writeL_bad (by unfold Req.bad; exact .inr (.inr (.inr (.inr (.inl ⟨by show ¬ (2 : Int) = 1; omega, z0⟩)))))] at hK
      refine WC_of_body hT Try.func10 rfl (by simp [Try.f10]) (by simp [Try.f10]) (wx_sound hT _ ?_)
      simp only [Try.f10]
      repeat' (first | simp only [go_sem, Nat.reduceLT, Nat.reduceEqDiff, Nat.reduceAdd, Nat.reduceMul, Nat.reduceSub, Nat.reduceLeDiff, Int.reduceToNat, Int.reduceNeg, Int.reduceLT, Int.reduceLE, Int.reduceEq, reduceCtorEq, Int.natCast_zero, Int.natCast_one, Int.cast_ofNat_Int, Bool.not_not, false_eq_decide, true_eq_decide, hread0, hreadk, read_cons0, read_consk, astore_h0, astore_hk, hget0, hgetk, hset0, hsetk, hlen, hcat, Nat.add_assoc, Nat.add_zero, Nat.zero_add, List.length_append, and_true, true_and, AV.flat, *, -hK, -zs] | refine WC.call (zs _) ?_ | with_reducible refine IfB_dec (fun h => ?_) (fun h => ?_) | with_reducible refine Guard_dec (fun h => ?_) (fun h => ?_) | with_reducible refine Guard_ndec (fun h => ?_) (fun h => ?_) | with_reducible refine Guard_not (fun h => ?_) (fun h => ?_) | with_reducible refine IfB_ndec (fun h => ?_) (fun h => ?_) | with_reducible refine IfB_not (fun h => ?_) (fun h => ?_) | with_reducible refine Guard_split (fun h => ?_) (fun h => ?_) | with_reducible refine IfB_split (fun h => ?_) (fun h => ?_))
      all_goals exact hK _ _ (Thaw.tup_row ⟨.nils, .int _ _, trivial⟩) (Keep.app _ _ _)
    rw [decide_eq_true z0] at zs
    subst z0
    by_cases x1 : tn < 0
    · skip
      rw [writeL_bad (by unfold Req.bad; exact .inr (.inr (.inr (.inr (.inr (.inl ⟨rfl, .inl x1⟩))))))] at hK
      refine WC_of_body hT Try.func10 rfl (by simp [Try.f10]) (by simp [Try.f10]) (wx_sound hT _ ?_)
      simp only [Try.f10]
      repeat' (first | simp only [go_sem, Nat.reduceLT, Nat.reduceEqDiff, Nat.reduceAdd, Nat.reduceMul, Nat.reduceSub, Nat.reduceLeDiff, Int.reduceToNat, Int.reduceNeg, Int.reduceLT, Int.reduceLE, Int.reduceEq, reduceCtorEq, Int.natCast_zero, Int.natCast_one, Int.cast_ofNat_Int, Bool.not_not, false_eq_decide, true_eq_decide, hread0, hreadk, read_cons0, read_consk, astore_h0, astore_hk, hget0, hgetk, hset0, hsetk, hlen, hcat, Nat.add_assoc, Nat.add_zero, Nat.zero_add, List.length_append, and_true, true_and, AV.flat, *, -hK, -zs] | refine WC.call (zs _) ?_ | with_reducible refine IfB_dec (fun h => ?_) (fun h => ?_) | with_reducible refine Guard_dec (fun h => ?_) (fun h => ?_) | with_reducible refine Guard_ndec (fun h => ?_) (fun h => ?_) | with_reducible refine Guard_not (fun h => ?_) (fun h => ?_) | with_reducible refine IfB_ndec (fun h => ?_) (fun h => ?_) | with_reducible refine IfB_not (fun h => ?_) (fun h => ?_) | with_reducible refine Guard_split (fun h => ?_) (fun h => ?_) | with_reducible refine IfB_split (fun h => ?_) (fun h => ?_))
      all_goals exact hK _ _ (Thaw.tup_row ⟨.nils, .int _ _, trivial⟩) (Keep.app _ _ _)
    by_cases x2 : tn ≥ 4
    · skip
      rw [writeL_bad (by unfold Req.bad; exact .inr (.inr (.inr (.inr (.inr (.inl ⟨rfl, .inr (.inl x2)⟩))))))] at hK
      refine WC_of_body hT Try.func10 rfl (by simp [Try.f10]) (by simp [Try.f10]) (wx_sound hT _ ?_)
      simp only [Try.f10]
      repeat' (first | simp only [go_sem, Nat.reduceLT, Nat.reduceEqDiff, Nat.reduceAdd, Nat.reduceMul, Nat.reduceSub, Nat.reduceLeDiff, Int.reduceToNat, Int.reduceNeg, Int.reduceLT, Int.reduceLE, Int.reduceEq, reduceCtorEq, Int.natCast_zero, Int.natCast_one, Int.cast_ofNat_Int, Bool.not_not, false_eq_decide, true_eq_decide, hread0, hreadk, read_cons0, read_consk, astore_h0, astore_hk, hget0, hgetk, hset0, hsetk, hlen, hcat, Nat.add_assoc, Nat.add_zero, Nat.zero_add, List.length_append, and_true, true_and, AV.flat, *, -hK, -zs] | refine WC.call (zs _) ?_ | with_reducible refine IfB_dec (fun h => ?_) (fun h => ?_) | with_reducible refine Guard_dec (fun h => ?_) (fun h => ?_) | with_reducible refine Guard_ndec (fun h => ?_) (fun h => ?_) | with_reducible refine Guard_not (fun h => ?_) (fun h => ?_) | with_reducible refine IfB_ndec (fun h => ?_) (fun h => ?_) | with_reducible refine IfB_not (fun h => ?_) (fun h => ?_) | with_reducible refine Guard_split (fun h => ?_) (fun h => ?_) | with_reducible refine IfB_split (fun h => ?_) (fun h => ?_))
      all_goals exact hK _ _ (Thaw.tup_row ⟨.nils, .int _ _, trivial⟩) (Keep.app _ _ _)
    by_cases x3 : (sc.length : Int) < 1
    · skip
      rw [writeL_bad (by unfold Req.bad; exact .inr (.inr (.inr (.inr (.inr (.inl ⟨rfl, .inr (.inr (.inl (by show sc.length < 1; omega)))⟩))))))] at hK
      refine WC_of_body hT Try.func10 rfl (by simp [Try.f10]) (by simp [Try.f10]) (wx_sound hT _ ?_)
      simp only [Try.f10]
      repeat' (first | simp only [go_sem, Nat.reduceLT, Nat.reduceEqDiff, Nat.reduceAdd, Nat.reduceMul, Nat.reduceSub, Nat.reduceLeDiff, Int.reduceToNat, Int.reduceNeg, Int.reduceLT, Int.reduceLE, Int.reduceEq, reduceCtorEq, Int.natCast_zero, Int.natCast_one, Int.cast_ofNat_Int, Bool.not_not, false_eq_decide, true_eq_decide, hread0, hreadk, read_cons0, read_consk, astore_h0, astore_hk, hget0, hgetk, hset0, hsetk, hlen, hcat, Nat.add_assoc, Nat.add_zero, Nat.zero_add, List.length_append, and_true, true_and, AV.flat, *, -hK, -zs] | refine WC.call (zs _) ?_ | with_reducible refine IfB_dec (fun h => ?_) (fun h => ?_) | with_reducible refine Guard_dec (fun h => ?_) (fun h => ?_) | with_reducible refine Guard_ndec (fun h => ?_) (fun h => ?_) | with_reducible refine Guard_not (fun h => ?_) (fun h => ?_) | with_reducible refine IfB_ndec (fun h => ?_) (fun h => ?_) | with_reducible refine IfB_not (fun h => ?_) (fun h => ?_) | with_reducible refine Guard_split (fun h => ?_) (fun h => ?_) | with_reducible refine IfB_split (fun h => ?_) (fun h => ?_))
      all_goals exact hK _ _ (Thaw.tup_row ⟨.nils, .int _ _, trivial⟩) (Keep.app _ _ _)
    by_cases x4 : (sc.length : Int) > 16
    · skip
      rw [writeL_bad (by unfold Req.bad; exact .inr (.inr (.inr (.inr (.inr (.inl ⟨rfl, .inr (.inr (.inr (by show sc.length > 16; omega)))⟩))))))] at hK
      refine WC_of_body hT Try.func10 rfl (by simp [Try.f10]) (by simp [Try.f10]) (wx_sound hT _ ?_)
      simp only [Try.f10]
      repeat' (first | simp only [go_sem, Nat.reduceLT, Nat.reduceEqDiff, Nat.reduceAdd, Nat.reduceMul, Nat.reduceSub, Nat.reduceLeDiff, Int.reduceToNat, Int.reduceNeg, Int.reduceLT, Int.reduceLE, Int.reduceEq, reduceCtorEq, Int.natCast_zero, Int.natCast_one, Int.cast_ofNat_Int, Bool.not_not, false_eq_decide, true_eq_decide, hread0, hreadk, read_cons0, read_consk, astore_h0, astore_hk, hget0, hgetk, hset0, hsetk, hlen, hcat, Nat.add_assoc, Nat.add_zero, Nat.zero_add, List.length_append, and_true, true_and, AV.flat, *, -hK, -zs] | refine WC.call (zs _) ?_ | with_reducible refine IfB_dec (fun h => ?_) (fun h => ?_) | with_reducible refine Guard_dec (fun h => ?_) (fun h => ?_) | with_reducible refine Guard_ndec (fun h => ?_) (fun h => ?_) | with_reducible refine Guard_not (fun h => ?_) (fun h => ?_) | with_reducible refine IfB_ndec (fun h => ?_) (fun h => ?_) | with_reducible refine IfB_not (fun h => ?_) (fun h => ?_) | with_reducible refine Guard_split (fun h => ?_) (fun h => ?_) | with_reducible refine IfB_split (fun h => ?_) (fun h => ?_))
      all_goals exact hK _ _ (Thaw.tup_row ⟨.nils, .int _ _, trivial⟩) (Keep.app _ _ _)
    have hnb : ¬ Req.bad ⟨2, cmd0, tn, sc, false, false⟩ := by
      unfold Req.bad
      rintro (h | h | h | ⟨h, _⟩ | ⟨_, h⟩ | ⟨_, h⟩ | ⟨h, _⟩)
      · exact absurd h (by show ¬ (2 : Int) < 1; omega)
      · exact absurd h (by show ¬ (2 : Int) > 5; omega)
      · cases h
      · cases h
      · exact h rfl
      · simp only at h; omega
      · exact h rfl
    unfold writeL at hK
    rw [if_neg hnb, if_neg (fun h => absurd h.1 (by show ¬ (2 : Int) = 1; omega)), if_neg (fun h => absurd h.1 (by show ¬ (2 : Int) = 1; omega))] at hK
    simp only [Req.body, Int.reduceEq, if_true, if_false] at hK
    have ps := fun v l hl J hv => packet1_spec 177 2 v l hl J hv
    rw [show ((177 : UInt8).toNat : Int) = 177 from rfl, show ((2 : UInt8).toNat : Int) = 2 from rfl] at ps
    have w1 : IntKind.u8.wrap tn = ((UInt8.ofNat tn.toNat).toNat : Int) := by rw [IntKind.wrap_u8, UInt8.toNat_ofNat']; omega
    clear hnb
    refine WC_of_body hT Try.func10 rfl (by simp [Try.f10]) (by simp [Try.f10]) (wx_sound hT _ ?_)
    simp only [Try.f10]
    repeat' (first | simp only [go_sem, Nat.reduceLT, Nat.reduceEqDiff, Nat.reduceAdd, Nat.reduceMul, Nat.reduceSub, Nat.reduceLeDiff, Int.reduceToNat, Int.reduceNeg, Int.reduceLT, Int.reduceLE, Int.reduceEq, reduceCtorEq, Int.natCast_zero, Int.natCast_one, Int.cast_ofNat_Int, Bool.not_not, false_eq_decide, true_eq_decide, hread0, hreadk, read_cons0, read_consk, astore_h0, astore_hk, hget0, hgetk, hset0, hsetk, hlen, hcat, Nat.add_assoc, Nat.add_zero, Nat.zero_add, List.length_append, and_true, true_and, AV.flat, *, -hK, -zs, -ps] | refine WC.call (zs _) ?_ | with_reducible refine IfB_dec (fun h => ?_) (fun h => ?_) | with_reducible refine Guard_dec (fun h => ?_) (fun h => ?_) | with_reducible refine Guard_ndec (fun h => ?_) (fun h => ?_) | with_reducible refine Guard_not (fun h => ?_) (fun h => ?_) | with_reducible refine IfB_ndec (fun h => ?_) (fun h => ?_) | with_reducible refine IfB_not (fun h => ?_) (fun h => ?_) | with_reducible refine Guard_split (fun h => ?_) (fun h => ?_) | with_reducible refine IfB_split (fun h => ?_) (fun h => ?_))
    refine append_ob (ob_one (m := H.length + 1) (x := UInt8.ofNat tn.toNat) (Nat.le_refl _) (by rw [hgetk]; rfl)) se22 az5 td5 rfl (str_src sc tk9) (by simp; omega) (by simp) ?_
    intro w H1 o1 k2 _
    have k1 : Keep none (H ++ [(⟨[.int .u8 2, .int .u8 cmd0.kind, .int .i64 cmd0.ten, Enc.str.lst cmd0.keys, .str cmd0.val, .int .u32 cmd0.flags, .int .i64 cmd0.for_, .int .u64 cmd0.uniq, .int .u64 cmd0.by_, .int .i64 tn, .str sc, .bool false, .bool false], 0, .full⟩ : Blk)] : Heap) H1 := Keep.new (b := H.length + 1) (Keep.of2 H _ _) k2 (by simp)
    have hb0 := k1.get (b := H.length) (B := ⟨[.int .u8 2, .int .u8 cmd0.kind, .int .i64 cmd0.ten, Enc.str.lst cmd0.keys, .str cmd0.val, .int .u32 cmd0.flags, .int .i64 cmd0.for_, .int .u64 cmd0.uniq, .int .u64 cmd0.by_, .int .i64 tn, .str sc, .bool false, .bool false], 0, .full⟩) (by rw [hget0]; rfl) (by simp)
    have hw := Own.one o1
    have hl1 := k1.len
    rw [List.length_append] at hl1
    repeat' (first | simp only [go_sem, Nat.reduceLT, Nat.reduceEqDiff, Nat.reduceAdd, Nat.reduceMul, Nat.reduceSub, Nat.reduceLeDiff, Int.reduceToNat, Int.reduceNeg, Int.reduceLT, Int.reduceLE, Int.reduceEq, reduceCtorEq, Int.natCast_zero, Int.natCast_one, Int.cast_ofNat_Int, Bool.not_not, false_eq_decide, true_eq_decide, hread0, hreadk, read_cons0, read_consk, astore_h0, astore_hk, hget0, hgetk, hset0, hsetk, hlen, hcat, Nat.add_assoc, Nat.add_zero, Nat.zero_add, List.length_append, and_true, true_and, AV.flat, hb0, get_app hb0, read_get hb0, read_app hb0, hw, one_solid hw, one_cells hw, *, -hK, -ps, -o1, -k1, -k2, -hl1, -zs] | with_reducible refine IfB_dec (fun h => ?_) (fun h => ?_) | with_reducible refine Guard_dec (fun h => ?_) (fun h => ?_) | with_reducible refine Guard_ndec (fun h => ?_) (fun h => ?_) | with_reducible refine Guard_not (fun h => ?_) (fun h => ?_) | with_reducible refine IfB_ndec (fun h => ?_) (fun h => ?_) | with_reducible refine IfB_not (fun h => ?_) (fun h => ?_) | with_reducible refine Guard_split (fun h => ?_) (fun h => ?_) | with_reducible refine IfB_split (fun h => ?_) (fun h => ?_))
    refine (ps w _ (by simp; omega) _ o1.bs).mono ?_
    rintro r H2 ⟨o, k⟩
    clear hb0
    repeat' (first | simp only [go_sem, Nat.reduceLT, Nat.reduceEqDiff, Nat.reduceAdd, Nat.reduceMul, Nat.reduceSub, Nat.reduceLeDiff, Int.reduceToNat, Int.reduceNeg, Int.reduceLT, Int.reduceLE, Int.reduceEq, reduceCtorEq, Int.natCast_zero, Int.natCast_one, Int.cast_ofNat_Int, Bool.not_not, false_eq_decide, true_eq_decide, hread0, hreadk, read_cons0, read_consk, astore_h0, astore_hk, hget0, hgetk, hset0, hsetk, hlen, hcat, Nat.add_assoc, Nat.add_zero, Nat.zero_add, List.length_append, and_true, true_and, AV.flat, *, -hK, -ps, -o1, -k1, -k2, -hl1, -zs, -o, -k] | with_reducible refine IfB_dec (fun h => ?_) (fun h => ?_) | with_reducible refine Guard_dec (fun h => ?_) (fun h => ?_) | with_reducible refine Guard_ndec (fun h => ?_) (fun h => ?_) | with_reducible refine Guard_not (fun h => ?_) (fun h => ?_) | with_reducible refine IfB_ndec (fun h => ?_) (fun h => ?_) | with_reducible refine IfB_not (fun h => ?_) (fun h => ?_) | with_reducible refine Guard_split (fun h => ?_) (fun h => ?_) | with_reducible refine IfB_split (fun h => ?_) (fun h => ?_))
    exact hK _ _ (Thaw.tup_row ⟨Thaw.ob (Own.mono o (by omega)), .int _ _, trivial⟩) (((Keep.app _ _ _).trans k1).trans k)
  · clear b4
    by_cases z0 : cm = cmd0
    rotate_left
    · rw [decide_eq_false z0] at zs
      rw [writeL_bad (by unfold Req.bad; exact .inr (.inr (.inr (.inr (.inl ⟨by show ¬ (3 : Int) = 1; omega, z0⟩)))))] at hK
      refine WC_of_body hT Try.func10 rfl (by simp [Try.f10]) (by simp [Try.f10]) (wx_sound hT _ ?_)
      simp only [Try.f10]
      repeat' (first | simp only [go_sem, Nat.reduceLT, Nat.reduceEqDiff, Nat.reduceAdd, Nat.reduceMul, Nat.reduceSub, Nat.reduceLeDiff, Int.reduceToNat, Int.reduceNeg, Int.reduceLT, Int.reduceLE, Int.reduceEq, reduceCtorEq, Int.natCast_zero, Int.natCast_one, Int.cast_ofNat_Int, Bool.not_not, false_eq_decide, true_eq_decide, hread0, hreadk, read_cons0, read_consk, astore_h0, astore_hk, hget0, hgetk, hset0, hsetk, hlen, hcat, Nat.add_assoc, Nat.add_zero, Nat.zero_add, List.length_append, and_true, true_and, AV.flat, *, -hK, -zs] | refine WC.call (zs _) ?_ | with_reducible refine IfB_dec (fun h => ?_) (fun h => ?_) | with_reducible refine Guard_dec (fun h => ?_) (fun h => ?_) | with_reducible refine Guard_ndec (fun h => ?_) (fun h => ?_) | with_reducible refine Guard_not (fun h => ?_) (fun h => ?_) | with_reducible refine IfB_ndec (fun h => ?_) (fun h => ?_) | with_reducible refine IfB_not (fun h => ?_) (fun h => ?_) | with_reducible refine Guard_split (fun h => ?_) (fun h => ?_) | with_reducible refine IfB_split (fun h => ?_) (fun h => ?_))
      all_goals exact hK _ _ (Thaw.tup_row ⟨.nils, .int _ _, trivial⟩) (Keep.app _ _ _)
    rw [decide_eq_true z0] at zs
    subst z0
    by_cases t0 : tn = 0
    rotate_left
    · skip
      rw [writeL_bad (by unfold Req.bad; exact .inr (.inr (.inr (.inr (.inr (.inr ⟨by show ¬ (3 : Int) = 2; omega, .inl t0⟩))))))] at hK
      refine WC_of_body hT Try.func10 rfl (by simp [Try.f10]) (by simp [Try.f10]) (wx_sound hT _ ?_)
      simp only [Try.f10]
      repeat' (first | simp only [go_sem, Nat.reduceLT, Nat.reduceEqDiff, Nat.reduceAdd, Nat.reduceMul, Nat.reduceSub, Nat.reduceLeDiff, Int.reduceToNat, Int.reduceNeg, Int.reduceLT, Int.reduceLE, Int.reduceEq, reduceCtorEq, Int.natCast_zero, Int.natCast_one, Int.cast_ofNat_Int, Bool.not_not, false_eq_decide, true_eq_decide, hread0, hreadk, read_cons0, read_consk, astore_h0, astore_hk, hget0, hgetk, hset0, hsetk, hlen, hcat, Nat.add_assoc, Nat.add_zero, Nat.zero_add, List.length_append, and_true, true_and, AV.flat, *, -hK, -zs] | refine WC.call (zs _) ?_ | with_reducible refine IfB_dec (fun h => ?_) (fun h => ?_) | with_reducible refine Guard_dec (fun h => ?_) (fun h => ?_) | with_reducible refine Guard_ndec (fun h => ?_) (fun h => ?_) | with_reducible refine Guard_not (fun h => ?_) (fun h => ?_) | with_reducible refine IfB_ndec (fun h => ?_) (fun h => ?_) | with_reducible refine IfB_not (fun h => ?_) (fun h => ?_) | with_reducible refine Guard_split (fun h => ?_) (fun h => ?_) | with_reducible refine IfB_split (fun h => ?_) (fun h => ?_))
      all_goals exact hK _ _ (Thaw.tup_row ⟨.nils, .int _ _, trivial⟩) (Keep.app _ _ _)
    by_cases s0 : sc = []
    rotate_left
    · skip
      rw [writeL_bad (by unfold Req.bad; exact .inr (.inr (.inr (.inr (.inr (.inr ⟨by show ¬ (3 : Int) = 2; omega, .inr s0⟩))))))] at hK
      refine WC_of_body hT Try.func10 rfl (by simp [Try.f10]) (by simp [Try.f10]) (wx_sound hT _ ?_)
      simp only [Try.f10]
      repeat' (first | simp only [go_sem, Nat.reduceLT, Nat.reduceEqDiff, Nat.reduceAdd, Nat.reduceMul, Nat.reduceSub, Nat.reduceLeDiff, Int.reduceToNat, Int.reduceNeg, Int.reduceLT, Int.reduceLE, Int.reduceEq, reduceCtorEq, Int.natCast_zero, Int.natCast_one, Int.cast_ofNat_Int, Bool.not_not, false_eq_decide, true_eq_decide, hread0, hreadk, read_cons0, read_consk, astore_h0, astore_hk, hget0, hgetk, hset0, hsetk, hlen, hcat, Nat.add_assoc, Nat.add_zero, Nat.zero_add, List.length_append, and_true, true_and, AV.flat, *, -hK, -zs] | refine WC.call (zs _) ?_ | with_reducible refine IfB_dec (fun h => ?_) (fun h => ?_) | with_reducible refine Guard_dec (fun h => ?_) (fun h => ?_) | with_reducible refine Guard_ndec (fun h => ?_) (fun h => ?_) | with_reducible refine Guard_not (fun h => ?_) (fun h => ?_) | with_reducible refine IfB_ndec (fun h => ?_) (fun h => ?_) | with_reducible refine IfB_not (fun h => ?_) (fun h => ?_) | with_reducible refine Guard_split (fun h => ?_) (fun h => ?_) | with_reducible refine IfB_split (fun h => ?_) (fun h => ?_))
      all_goals exact hK _ _ (Thaw.tup_row ⟨.nils, .int _ _, trivial⟩) (Keep.app _ _ _)
    subst t0
    subst s0
    have ps := fun v l hl J hv => packet1_spec 177 3 v l hl J hv
    rw [show ((177 : UInt8).toNat : Int) = 177 from rfl, show ((3 : UInt8).toNat : Int) = 3 from rfl] at ps
    have hnb : ¬ Req.bad ⟨3, cmd0, 0, [], on, false⟩ := by unfold Req.bad; simp
    unfold writeL at hK
    rw [if_neg hnb, if_neg (fun h => absurd h.1 (by show ¬ (3 : Int) = 1; omega)), if_neg (fun h => absurd h.1 (by show ¬ (3 : Int) = 1; omega))] at hK
    simp only [Req.body, Int.reduceEq, if_true, if_false] at hK
    clear hnb
    cases on with
    | true =>
      refine WC_of_body hT Try.func10 rfl (by simp [Try.f10]) (by simp [Try.f10]) (wx_sound hT _ ?_)
      simp only [Try.f10]
      repeat' (first | simp only [go_sem, Nat.reduceLT, Nat.reduceEqDiff, Nat.reduceAdd, Nat.reduceMul, Nat.reduceSub, Nat.reduceLeDiff, Int.reduceToNat, Int.reduceNeg, Int.reduceLT, Int.reduceLE, Int.reduceEq, reduceCtorEq, Int.natCast_zero, Int.natCast_one, Int.cast_ofNat_Int, Bool.not_not, false_eq_decide, true_eq_decide, hread0, hreadk, read_cons0, read_consk, astore_h0, astore_hk, hget0, hgetk, hset0, hsetk, hlen, hcat, Nat.add_assoc, Nat.add_zero, Nat.zero_add, List.length_append, and_true, true_and, AV.flat, *, -hK, -zs, -ps] | refine WC.call (zs _) ?_ | with_reducible refine IfB_dec (fun h => ?_) (fun h => ?_) | with_reducible refine Guard_dec (fun h => ?_) (fun h => ?_) | with_reducible refine Guard_ndec (fun h => ?_) (fun h => ?_) | with_reducible refine Guard_not (fun h => ?_) (fun h => ?_) | with_reducible refine IfB_ndec (fun h => ?_) (fun h => ?_) | with_reducible refine IfB_not (fun h => ?_) (fun h => ?_) | with_reducible refine Guard_split (fun h => ?_) (fun h => ?_) | with_reducible refine IfB_split (fun h => ?_) (fun h => ?_))
      refine (ps _ [1] (by simp) _ (bs_one (by rw [hgetk]; rfl))).mono ?_
      rintro r H2 ⟨o, k⟩
      repeat' (first | simp only [go_sem, Nat.reduceLT, Nat.reduceEqDiff, Nat.reduceAdd, Nat.reduceMul, Nat.reduceSub, Nat.reduceLeDiff, Int.reduceToNat, Int.reduceNeg, Int.reduceLT, Int.reduceLE, Int.reduceEq, reduceCtorEq, Int.natCast_zero, Int.natCast_one, Int.cast_ofNat_Int, Bool.not_not, false_eq_decide, true_eq_decide, hread0, hreadk, read_cons0, read_consk, astore_h0, astore_hk, hget0, hgetk, hset0, hsetk, hlen, hcat, Nat.add_assoc, Nat.add_zero, Nat.zero_add, List.length_append, and_true, true_and, AV.flat, *, -hK, -ps, -zs, -o, -k] | with_reducible refine IfB_dec (fun h => ?_) (fun h => ?_) | with_reducible refine Guard_dec (fun h => ?_) (fun h => ?_) | with_reducible refine Guard_ndec (fun h => ?_) (fun h => ?_) | with_reducible refine Guard_not (fun h => ?_) (fun h => ?_) | with_reducible refine IfB_ndec (fun h => ?_) (fun h => ?_) | with_reducible refine IfB_not (fun h => ?_) (fun h => ?_) | with_reducible refine Guard_split (fun h => ?_) (fun h => ?_) | with_reducible refine IfB_split (fun h => ?_) (fun h => ?_))
      exact hK _ _ (Thaw.tup_row ⟨Thaw.ob (Own.mono o (by simp)), .int _ _, trivial⟩) ((Keep.app _ _ _).trans k)
    | false =>
      refine WC_of_body hT Try.func10 rfl (by simp [Try.f10]) (by simp [Try.f10]) (wx_sound hT _ ?_)
      simp only [Try.f10]
      repeat' (first | simp only [go_sem, Nat.reduceLT, Nat.reduceEqDiff, Nat.reduceAdd, Nat.reduceMul, Nat.reduceSub, Nat.reduceLeDiff, Int.reduceToNat, Int.reduceNeg, Int.reduceLT, Int.reduceLE, Int.reduceEq, reduceCtorEq, Int.natCast_zero, Int.natCast_one, Int.cast_ofNat_Int, Bool.not_not, false_eq_decide, true_eq_decide, hread0, hreadk, read_cons0, read_consk, astore_h0, astore_hk, hget0, hgetk, hset0, hsetk, hlen, hcat, Nat.add_assoc, Nat.add_zero, Nat.zero_add, List.length_append, and_true, true_and, AV.flat, *, -hK, -zs, -ps] | refine WC.call (zs _) ?_ | with_reducible refine IfB_dec (fun h => ?_) (fun h => ?_) | with_reducible refine Guard_dec (fun h => ?_) (fun h => ?_) | with_reducible refine Guard_ndec (fun h => ?_) (fun h => ?_) | with_reducible refine Guard_not (fun h => ?_) (fun h => ?_) | with_reducible refine IfB_ndec (fun h => ?_) (fun h => ?_) | with_reducible refine IfB_not (fun h => ?_) (fun h => ?_) | with_reducible refine Guard_split (fun h => ?_) (fun h => ?_) | with_reducible refine IfB_split (fun h => ?_) (fun h => ?_))
      refine (ps _ [0] (by simp) _ (bs_one (by rw [hgetk]; rfl))).mono ?_
      rintro r H2 ⟨o, k⟩
      repeat' (first | simp only [go_sem, Nat.reduceLT, Nat.reduceEqDiff, Nat.reduceAdd, Nat.reduceMul, Nat.reduceSub, Nat.reduceLeDiff, Int.reduceToNat, Int.reduceNeg, Int.reduceLT, Int.reduceLE, Int.reduceEq, reduceCtorEq, Int.natCast_zero, Int.natCast_one, Int.cast_ofNat_Int, Bool.not_not, false_eq_decide, true_eq_decide, hread0, hreadk, read_cons0, read_consk, astore_h0, astore_hk, hget0, hgetk, hset0, hsetk, hlen, hcat, Nat.add_assoc, Nat.add_zero, Nat.zero_add, List.length_append, and_true, true_and, AV.flat, *, -hK, -ps, -zs, -o, -k] | with_reducible refine IfB_dec (fun h => ?_) (fun h => ?_) | with_reducible refine Guard_dec (fun h => ?_) (fun h => ?_) | with_reducible refine Guard_ndec (fun h => ?_) (fun h => ?_) | with_reducible refine Guard_not (fun h => ?_) (fun h => ?_) | with_reducible refine IfB_ndec (fun h => ?_) (fun h => ?_) | with_reducible refine IfB_not (fun h => ?_) (fun h => ?_) | with_reducible refine Guard_split (fun h => ?_) (fun h => ?_) | with_reducible refine IfB_split (fun h => ?_) (fun h => ?_))
      exact hK _ _ (Thaw.tup_row ⟨Thaw.ob (Own.mono o (by simp)), .int _ _, trivial⟩) ((Keep.app _ _ _).trans k)
  · skip
    have hon : on = false := by cases on <;> simp_all
    subst hon
    clear b4
    by_cases z0 : cm = cmd0
    rotate_left
    · rw [decide_eq_false z0] at zs
      rw [writeL_bad (by unfold Req.bad; exact .inr (.inr (.inr (.inr (.inl ⟨by show ¬ (4 : Int) = 1; omega, z0⟩)))))] at hK
      refine WC_of_body hT Try.func10 rfl (by simp [Try.f10]) (by simp [Try.f10]) (wx_sound hT _ ?_)
      simp only [Try.f10]
      repeat' (first | simp only [go_sem, Nat.reduceLT, Nat.reduceEqDiff, Nat.reduceAdd, Nat.reduceMul, Nat.reduceSub, Nat.reduceLeDiff, Int.reduceToNat, Int.reduceNeg, Int.reduceLT, Int.reduceLE, Int.reduceEq, reduceCtorEq, Int.natCast_zero, Int.natCast_one, Int.cast_ofNat_Int, Bool.not_not, false_eq_decide, true_eq_decide, hread0, hreadk, read_cons0, read_consk, astore_h0, astore_hk, hget0, hgetk, hset0, hsetk, hlen, hcat, Nat.add_assoc, Nat.add_zero, Nat.zero_add, List.length_append, and_true, true_and, AV.flat, *, -hK, -zs] | refine WC.call (zs _) ?_ | with_reducible refine IfB_dec (fun h => ?_) (fun h => ?_) | with_reducible refine Guard_dec (fun h => ?_) (fun h => ?_) | with_reducible refine Guard_ndec (fun h => ?_) (fun h => ?_) | with_reducible refine Guard_not (fun h => ?_) (fun h => ?_) | with_reducible refine IfB_ndec (fun h => ?_) (fun h => ?_) | with_reducible refine IfB_not (fun h => ?_) (fun h => ?_) | with_reducible refine Guard_split (fun h => ?_) (fun h => ?_) | with_reducible refine IfB_split (fun h => ?_) (fun h => ?_))
      all_goals exact hK _ _ (Thaw.tup_row ⟨.nils, .int _ _, trivial⟩) (Keep.app _ _ _)
    rw [decide_eq_true z0] at zs
    subst z0
    by_cases t0 : tn = 0
    rotate_left
    · skip
      rw [writeL_bad (by unfold Req.bad; exact .inr (.inr (.inr (.inr (.inr (.inr ⟨by show ¬ (4 : Int) = 2; omega, .inl t0⟩))))))] at hK
      refine WC_of_body hT Try.func10 rfl (by simp [Try.f10]) (by simp [Try.f10]) (wx_sound hT _ ?_)
      simp only [Try.f10]
      repeat' (first | simp only [go_sem, Nat.reduceLT, Nat.reduceEqDiff, Nat.reduceAdd, Nat.reduceMul, Nat.reduceSub, Nat.reduceLeDiff, Int.reduceToNat, Int.reduceNeg, Int.reduceLT, Int.reduceLE, Int.reduceEq, reduceCtorEq, Int.natCast_zero, Int.natCast_one, Int.cast_ofNat_Int, Bool.not_not, false_eq_decide, true_eq_decide, hread0, hreadk, read_cons0, read_consk, astore_h0, astore_hk, hget0, hgetk, hset0, hsetk, hlen, hcat, Nat.add_assoc, Nat.add_zero, Nat.zero_add, List.length_append, and_true, true_and, AV.flat, *, -hK, -zs] | refine WC.call (zs _) ?_ | with_reducible refine IfB_dec (fun h => ?_) (fun h => ?_) | with_reducible refine Guard_dec (fun h => ?_) (fun h => ?_) | with_reducible refine Guard_ndec (fun h => ?_) (fun h => ?_) | with_reducible refine Guard_not (fun h => ?_) (fun h => ?_) | with_reducible refine IfB_ndec (fun h => ?_) (fun h => ?_) | with_reducible refine IfB_not (fun h => ?_) (fun h => ?_) | with_reducible refine Guard_split (fun h => ?_) (fun h => ?_) | with_reducible refine IfB_split (fun h => ?_) (fun h => ?_))
      all_goals exact hK _ _ (Thaw.tup_row ⟨.nils, .int _ _, trivial⟩) (Keep.app _ _ _)
    by_cases s0 : sc = []
    rotate_left
    · skip
      rw [writeL_bad (by unfold Req.bad; exact .inr (.inr (.inr (.inr (.inr (.inr ⟨by show ¬ (4 : Int) = 2; omega, .inr s0⟩))))))] at hK
      refine WC_of_body hT Try.func10 rfl (by simp [Try.f10]) (by simp [Try.f10]) (wx_sound hT _ ?_)
      simp only [Try.f10]
      repeat' (first | simp only [go_sem, Nat.reduceLT, Nat.reduceEqDiff, Nat.reduceAdd, Nat.reduceMul, Nat.reduceSub, Nat.reduceLeDiff, Int.reduceToNat, Int.reduceNeg, Int.reduceLT, Int.reduceLE, Int.reduceEq, reduceCtorEq, Int.natCast_zero, Int.natCast_one, Int.cast_ofNat_Int, Bool.not_not, false_eq_decide, true_eq_decide, hread0, hreadk, read_cons0, read_consk, astore_h0, astore_hk, hget0, hgetk, hset0, hsetk, hlen, hcat, Nat.add_assoc, Nat.add_zero, Nat.zero_add, List.length_append, and_true, true_and, AV.flat, *, -hK, -zs] | refine WC.call (zs _) ?_ | with_reducible refine IfB_dec (fun h => ?_) (fun h => ?_) | with_reducible refine Guard_dec (fun h => ?_) (fun h => ?_) | with_reducible refine Guard_ndec (fun h => ?_) (fun h => ?_) | with_reducible refine Guard_not (fun h => ?_) (fun h => ?_) | with_reducible refine IfB_ndec (fun h => ?_) (fun h => ?_) | with_reducible refine IfB_not (fun h => ?_) (fun h => ?_) | with_reducible refine Guard_split (fun h => ?_) (fun h => ?_) | with_reducible refine IfB_split (fun h => ?_) (fun h => ?_))
      all_goals exact hK _ _ (Thaw.tup_row ⟨.nils, .int _ _, trivial⟩) (Keep.app _ _ _)
    subst t0
    subst s0
    have ps := fun v l hl J hv => packet1_spec 177 4 v l hl J hv
    rw [show ((177 : UInt8).toNat : Int) = 177 from rfl, show ((4 : UInt8).toNat : Int) = 4 from rfl] at ps
    have hnb : ¬ Req.bad ⟨4, cmd0, 0, [], false, false⟩ := by unfold Req.bad; simp
    unfold writeL at hK
    rw [if_neg hnb, if_neg (fun h => absurd h.1 (by show ¬ (4 : Int) = 1; omega)), if_neg (fun h => absurd h.1 (by show ¬ (4 : Int) = 1; omega))] at hK
    simp only [Req.body, Int.reduceEq, if_true, if_false] at hK
    clear hnb
    refine WC_of_body hT Try.func10 rfl (by simp [Try.f10]) (by simp [Try.f10]) (wx_sound hT _ ?_)
    simp only [Try.f10]
    repeat' (first | simp only [go_sem, Nat.reduceLT, Nat.reduceEqDiff, Nat.reduceAdd, Nat.reduceMul, Nat.reduceSub, Nat.reduceLeDiff, Int.reduceToNat, Int.reduceNeg, Int.reduceLT, Int.reduceLE, Int.reduceEq, reduceCtorEq, Int.natCast_zero, Int.natCast_one, Int.cast_ofNat_Int, Bool.not_not, false_eq_decide, true_eq_decide, hread0, hreadk, read_cons0, read_consk, astore_h0, astore_hk, hget0, hgetk, hset0, hsetk, hlen, hcat, Nat.add_assoc, Nat.add_zero, Nat.zero_add, List.length_append, and_true, true_and, AV.flat, *, -hK, -zs, -ps] | refine WC.call (zs _) ?_ | with_reducible refine IfB_dec (fun h => ?_) (fun h => ?_) | with_reducible refine Guard_dec (fun h => ?_) (fun h => ?_) | with_reducible refine Guard_ndec (fun h => ?_) (fun h => ?_) | with_reducible refine Guard_not (fun h => ?_) (fun h => ?_) | with_reducible refine IfB_ndec (fun h => ?_) (fun h => ?_) | with_reducible refine IfB_not (fun h => ?_) (fun h => ?_) | with_reducible refine Guard_split (fun h => ?_) (fun h => ?_) | with_reducible refine IfB_split (fun h => ?_) (fun h => ?_))
    refine (ps .nils [] (by simp) _ Bs.nil_nils).mono ?_
    rintro r H2 ⟨o, k⟩
    repeat' (first | simp only [go_sem, Nat.reduceLT, Nat.reduceEqDiff, Nat.reduceAdd, Nat.reduceMul, Nat.reduceSub, Nat.reduceLeDiff, Int.reduceToNat, Int.reduceNeg, Int.reduceLT, Int.reduceLE, Int.reduceEq, reduceCtorEq, Int.natCast_zero, Int.natCast_one, Int.cast_ofNat_Int, Bool.not_not, false_eq_decide, true_eq_decide, hread0, hreadk, read_cons0, read_consk, astore_h0, astore_hk, hget0, hgetk, hset0, hsetk, hlen, hcat, Nat.add_assoc, Nat.add_zero, Nat.zero_add, List.length_append, and_true, true_and, AV.flat, *, -hK, -ps, -zs, -o, -k] | with_reducible refine IfB_dec (fun h => ?_) (fun h => ?_) | with_reducible refine Guard_dec (fun h => ?_) (fun h => ?_) | with_reducible refine Guard_ndec (fun h => ?_) (fun h => ?_) | with_reducible refine Guard_not (fun h => ?_) (fun h => ?_) | with_reducible refine IfB_ndec (fun h => ?_) (fun h => ?_) | with_reducible refine IfB_not (fun h => ?_) (fun h => ?_) | with_reducible refine Guard_split (fun h => ?_) (fun h => ?_) | with_reducible refine IfB_split (fun h => ?_) (fun h => ?_))
    exact hK _ _ (Thaw.tup_row ⟨Thaw.ob (Own.mono o (by simp)), .int _ _, trivial⟩) ((Keep.app _ _ _).trans k)
  · skip
    have hon : on = false := by cases on <;> simp_all
    subst hon
    clear b4
    by_cases z0 : cm = cmd0
    rotate_left
    · rw [decide_eq_false z0] at zs
      rw [writeL_bad (by unfold Req.bad; exact .inr (.inr (.inr (.inr (.inl ⟨by show ¬ (5 : Int) = 1; omega, z0⟩)))))] at hK
      refine WC_of_body hT Try.func10 rfl (by simp [Try.f10]) (by simp [Try.f10]) (wx_sound hT _ ?_)
      simp only [Try.f10]
      repeat' (first | simp only [go_sem, Nat.reduceLT, Nat.reduceEqDiff, Nat.reduceAdd, Nat.reduceMul, Nat.reduceSub, Nat.reduceLeDiff, Int.reduceToNat, Int.reduceNeg, Int.reduceLT, Int.reduceLE, Int.reduceEq, reduceCtorEq, Int.natCast_zero, Int.natCast_one, Int.cast_ofNat_Int, Bool.not_not, false_eq_decide, true_eq_decide, hread0, hreadk, read_cons0, read_consk, astore_h0, astore_hk, hget0, hgetk, hset0, hsetk, hlen, hcat, Nat.add_assoc, Nat.add_zero, Nat.zero_add, List.length_append, and_true, true_and, AV.flat, *, -hK, -zs] | refine WC.call (zs _) ?_ | with_reducible refine IfB_dec (fun h => ?_) (fun h => ?_) | with_reducible refine Guard_dec (fun h => ?_) (fun h => ?_) | with_reducible refine Guard_ndec (fun h => ?_) (fun h => ?_) | with_reducible refine Guard_not (fun h => ?_) (fun h => ?_) | with_reducible refine IfB_ndec (fun h => ?_) (fun h => ?_) | with_reducible refine IfB_not (fun h => ?_) (fun h => ?_) | with_reducible refine Guard_split (fun h => ?_) (fun h => ?_) | with_reducible refine IfB_split (fun h => ?_) (fun h => ?_))
      all_goals exact hK _ _ (Thaw.tup_row ⟨.nils, .int _ _, trivial⟩) (Keep.app _ _ _)
    rw [decide_eq_true z0] at zs
    subst z0
    by_cases t0 : tn = 0
    rotate_left
    · skip
      rw [writeL_bad (by unfold Req.bad; exact .inr (.inr (.inr (.inr (.inr (.inr ⟨by show ¬ (5 : Int) = 2; omega, .inl t0⟩))))))] at hK
      refine WC_of_body hT Try.func10 rfl (by simp [Try.f10]) (by simp [Try.f10]) (wx_sound hT _ ?_)
      simp only [Try.f10]
      repeat' (first | simp only [go_sem, Nat.reduceLT, Nat.reduceEqDiff, Nat.reduceAdd, Nat.reduceMul, Nat.reduceSub, Nat.reduceLeDiff, Int.reduceToNat, Int.reduceNeg, Int.reduceLT, Int.reduceLE, Int.reduceEq, reduceCtorEq, Int.natCast_zero, Int.natCast_one, Int.cast_ofNat_Int, Bool.not_not, false_eq_decide, true_eq_decide, hread0, hreadk, read_cons0, read_consk, astore_h0, astore_hk, hget0, hgetk, hset0, hsetk, hlen, hcat, Nat.add_assoc, Nat.add_zero, Nat.zero_add, List.length_append, and_true, true_and, AV.flat, *, -hK, -zs] | refine WC.call (zs _) ?_ | with_reducible refine IfB_dec (fun h => ?_) (fun h => ?_) | with_reducible refine Guard_dec (fun h => ?_) (fun h => ?_) | with_reducible refine Guard_ndec (fun h => ?_) (fun h => ?_) | with_reducible refine Guard_not (fun h => ?_) (fun h => ?_) | with_reducible refine IfB_ndec (fun h => ?_) (fun h => ?_) | with_reducible refine IfB_not (fun h => ?_) (fun h => ?_) | with_reducible refine Guard_split (fun h => ?_) (fun h => ?_) | with_reducible refine IfB_split (fun h => ?_) (fun h => ?_))
      all_goals exact hK _ _ (Thaw.tup_row ⟨.nils, .int _ _, trivial⟩) (Keep.app _ _ _)
    by_cases s0 : sc = []
    rotate_left
    · skip
      rw [writeL_bad (by unfold Req.bad; exact .inr (.inr (.inr (.inr (.inr (.inr ⟨by show ¬ (5 : Int) = 2; omega, .inr s0⟩))))))] at hK
      refine WC_of_body hT Try.func10 rfl (by simp [Try.f10]) (by simp [Try.f10]) (wx_sound hT _ ?_)
      simp only [Try.f10]
      repeat' (first | simp only [go_sem, Nat.reduceLT, Nat.reduceEqDiff, Nat.reduceAdd, Nat.reduceMul, Nat.reduceSub, Nat.reduceLeDiff, Int.reduceToNat, Int.reduceNeg, Int.reduceLT, Int.reduceLE, Int.reduceEq, reduceCtorEq, Int.natCast_zero, Int.natCast_one, Int.cast_ofNat_Int, Bool.not_not, false_eq_decide, true_eq_decide, hread0, hreadk, read_cons0, read_consk, astore_h0, astore_hk, hget0, hgetk, hset0, hsetk, hlen, hcat, Nat.add_assoc, Nat.add_zero, Nat.zero_add, List.length_append, and_true, true_and, AV.flat, *, -hK, -zs] | refine WC.call (zs _) ?_ | with_reducible refine IfB_dec (fun h => ?_) (fun h => ?_) | with_reducible refine Guard_dec (fun h => ?_) (fun h => ?_) | with_reducible refine Guard_ndec (fun h => ?_) (fun h => ?_) | with_reducible refine Guard_not (fun h => ?_) (fun h => ?_) | with_reducible refine IfB_ndec (fun h => ?_) (fun h => ?_) | with_reducible refine IfB_not (fun h => ?_) (fun h => ?_) | with_reducible refine Guard_split (fun h => ?_) (fun h => ?_) | with_reducible refine IfB_split (fun h => ?_) (fun h => ?_))
      all_goals exact hK _ _ (Thaw.tup_row ⟨.nils, .int _ _, trivial⟩) (Keep.app _ _ _)
    subst t0
    subst s0
    have ps := fun v l hl J hv => packet1_spec 177 5 v l hl J hv
    rw [show ((177 : UInt8).toNat : Int) = 177 from rfl, show ((5 : UInt8).toNat : Int) = 5 from rfl] at ps
    have hnb : ¬ Req.bad ⟨5, cmd0, 0, [], false, false⟩ := by unfold Req.bad; simp
    unfold writeL at hK
    rw [if_neg hnb, if_neg (fun h => absurd h.1 (by show ¬ (5 : Int) = 1; omega)), if_neg (fun h => absurd h.1 (by show ¬ (5 : Int) = 1; omega))] at hK
    simp only [Req.body, Int.reduceEq, if_true, if_false] at hK
    clear hnb
    refine WC_of_body hT Try.func10 rfl (by simp [Try.f10]) (by simp [Try.f10]) (wx_sound hT _ ?_)
    simp only [Try.f10]
    repeat' (first | simp only [go_sem, Nat.reduceLT, Nat.reduceEqDiff, Nat.reduceAdd, Nat.reduceMul, Nat.reduceSub, Nat.reduceLeDiff, Int.reduceToNat, Int.reduceNeg, Int.reduceLT, Int.reduceLE, Int.reduceEq, reduceCtorEq, Int.natCast_zero, Int.natCast_one, Int.cast_ofNat_Int, Bool.not_not, false_eq_decide, true_eq_decide, hread0, hreadk, read_cons0, read_consk, astore_h0, astore_hk, hget0, hgetk, hset0, hsetk, hlen, hcat, Nat.add_assoc, Nat.add_zero, Nat.zero_add, List.length_append, and_true, true_and, AV.flat, *, -hK, -zs, -ps] | refine WC.call (zs _) ?_ | with_reducible refine IfB_dec (fun h => ?_) (fun h => ?_) | with_reducible refine Guard_dec (fun h => ?_) (fun h => ?_) | with_reducible refine Guard_ndec (fun h => ?_) (fun h => ?_) | with_reducible refine Guard_not (fun h => ?_) (fun h => ?_) | with_reducible refine IfB_ndec (fun h => ?_) (fun h => ?_) | with_reducible refine IfB_not (fun h => ?_) (fun h => ?_) | with_reducible refine Guard_split (fun h => ?_) (fun h => ?_) | with_reducible refine IfB_split (fun h => ?_) (fun h => ?_))
    refine (ps .nils [] (by simp) _ Bs.nil_nils).mono ?_
    rintro r H2 ⟨o, k⟩
    repeat' (first | simp only [go_sem, Nat.reduceLT, Nat.reduceEqDiff, Nat.reduceAdd, Nat.reduceMul, Nat.reduceSub, Nat.reduceLeDiff, Int.reduceToNat, Int.reduceNeg, Int.reduceLT, Int.reduceLE, Int.reduceEq, reduceCtorEq, Int.natCast_zero, Int.natCast_one, Int.cast_ofNat_Int, Bool.not_not, false_eq_decide, true_eq_decide, hread0, hreadk, read_cons0, read_consk, astore_h0, astore_hk, hget0, hgetk, hset0, hsetk, hlen, hcat, Nat.add_assoc, Nat.add_zero, Nat.zero_add, List.length_append, and_true, true_and, AV.flat, *, -hK, -ps, -zs, -o, -k] | with_reducible refine IfB_dec (fun h => ?_) (fun h => ?_) | with_reducible refine Guard_dec (fun h => ?_) (fun h => ?_) | with_reducible refine Guard_ndec (fun h => ?_) (fun h => ?_) | with_reducible refine Guard_not (fun h => ?_) (fun h => ?_) | with_reducible refine IfB_ndec (fun h => ?_) (fun h => ?_) | with_reducible refine IfB_not (fun h => ?_) (fun h => ?_) | with_reducible refine Guard_split (fun h => ?_) (fun h => ?_) | with_reducible refine IfB_split (fun h => ?_) (fun h => ?_))
    exact hK _ _ (Thaw.tup_row ⟨Thaw.ob (Own.mono o (by simp)), .int _ _, trivial⟩) ((Keep.app _ _ _).trans k)
end Go.Proofs.YtchpmfpmnhopoaaRR
