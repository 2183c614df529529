import Derived.Test.YtakmlfbejbelaaaCodeM
set_option linter.unusedSimpArgs false
set_option linter.unusedVariables false
set_option maxRecDepth 100000
set_option maxHeartbeats 2000000
namespace Go.Proofs.Ytakmlfbejbelaaa
open Go Go.Proofs Go.Proofs.PI
/-! ### commands are read -/
def keysGo (stop : Bool) : Nat → RS → List (List UInt8) → List (List UInt8) × RS
  | 0, s, acc => (acc, s)
  | n + 1, s, acc => if stop = true ∧ s.bad = true then (acc, s) else keysGo stop n (textS s).2 (acc ++ [(textS s).1])
def cmdG (num : Nat → RS → Nat × RS) (wide : RS → Nat × RS) (stop : Bool) (b : List UInt8) : Cmd × RS :=
  let k := byteS ⟨b, false⟩; let t := num 4 k.2; let n := num 8 t.2; let ks := keysGo stop n.1 n.2 []; let v := textS ks.2
  let f := num 4294967295 v.2; let d := num 1099511627776 f.2; let u := wide d.2; let y := wide u.2
  (⟨k.1.toNat, t.1, ks.1, v.1, f.1, d.1, u.1, y.1⟩, y.2)
theorem keysGo_enc {stop : Bool} (r : List UInt8) : ∀ (l acc : List (List UInt8)), (∀ k ∈ l, k.length ≤ 32) → keysGo stop l.length ⟨textsL l ++ r, false⟩ acc = (acc ++ l, ⟨r, false⟩)
  | [], acc, _ => by simp [keysGo, textsL]
  | k :: l, acc, h => by
    have e : textsL (k :: l) = textL k ++ textsL l := rfl
    rw [List.length_cons, keysGo, if_neg (by simp), e, List.append_assoc, textS_enc (by have := h k (.head _); omega)]
    simp only
    rw [keysGo_enc r l _ fun x hx => h x (.tail _ hx), List.append_assoc]; rfl
theorem keysGo_len {stop : Bool} : ∀ (n : Nat) (s : RS) (acc : List (List UInt8)), (keysGo stop n s acc).1.length ≤ acc.length + n ∧ (keysGo stop n s acc).2.l.length ≤ s.l.length
  | 0, s, acc => by simp [keysGo]
  | n + 1, s, acc => by
    rw [keysGo]
    split
    · simp
    · obtain ⟨h1, h2⟩ := keysGo_len (stop := stop) n (textS s).2 (acc ++ [(textS s).1])
      have := (textS_len s).2
      simp only [List.length_append, List.length_singleton] at h1
      omega
theorem shaped_facts {c : Cmd} (h : shapedB c = true) : (∀ k ∈ c.keys, k.length ≤ 32) ∧ 1 ≤ c.kind ∧ c.kind ≤ 11 ∧ 0 ≤ c.ten ∧ c.ten < 4 ∧ c.keys.length ≤ 8 ∧ c.val.length ≤ 512 ∧ 0 ≤ c.for_ ∧ c.for_ ≤ 1099511627776 := by
  simp only [shapedB, Bool.and_eq_true, decide_eq_true_eq, List.all_eq_true] at h
  refine ⟨fun k hk => ?_, h.2⟩
  have := h.1 k hk
  simp only [keyB, decide_eq_true_eq] at this
  exact this.2
theorem cmdL_eq {c : Cmd} (ho : c.Ok) (h : shapedB c = true) : cmdL c = UInt8.ofNat c.kind.toNat :: (small c.ten.toNat ++ (small c.keys.length ++ (textsL c.keys ++ (textL c.val ++ (small c.flags.toNat ++ (small c.for_.toNat ++ (small c.uniq.toNat ++ small c.by_.toNat))))))) := by
  obtain ⟨_, h1, h2, h3, h4, h5, h6, h7, h8⟩ := shaped_facts h
  have hf := ho.flags
  simp only [cmdL, numsL, List.flatMap_cons, List.flatMap_nil, List.append_nil, List.cons_append, List.nil_append, List.append_assoc]
  rw [u64w_id h3 (by omega), u64w_id (show (0 : Int) ≤ (c.keys.length : Int) by omega) (by omega), u64w_id hf.1 (by omega), u64w_id h7 (by omega)]
  simp [textsL]
theorem cmdG_enc {num : Nat → RS → Nat × RS} {wide : RS → Nat × RS} (hn : NumOk num wide) {stop : Bool} {c : Cmd} (ho : c.Ok) (h : shapedB c = true) : cmdG num wide stop (cmdL c) = (c, ⟨[], false⟩) := by
  obtain ⟨h0, h1, h2, h3, h4, h5, h6, h7, h8⟩ := shaped_facts h
  have hk := kbyte ho.kind
  have hf := ho.flags
  have hu := ho.uniq
  have hb := ho.by_
  rw [cmdL_eq ho h]
  unfold cmdG
  simp only [byteS_enc]
  rw [hn.enc _ _ _ _ (by omega) (by omega)]
  simp only
  rw [hn.enc _ _ _ _ (by omega) (by omega)]
  simp only
  rw [keysGo_enc _ _ _ h0]
  simp only
  rw [textS_enc (by omega)]
  simp only
  rw [hn.enc _ _ _ _ (by omega) (by omega)]
  simp only
  rw [hn.enc _ _ _ _ (by omega) (by omega)]
  simp only
  rw [hn.wenc _ _ _ (by omega)]
  simp only
  rw [← List.append_nil (small c.by_.toNat), hn.wenc _ _ _ (by omega)]
  simp only [hk, List.nil_append]
  obtain ⟨kind, ten, keys, val, flags, for_, uniq, by_⟩ := c
  simp only at *
  congr 1
  simp only [Cmd.mk.injEq, true_and]
  omega
def CmdOf (b : List UInt8) (c : Cmd) : Prop := c.Ok ∧ commandL c = (b, 0)
theorem cmdOf_enc {num : Nat → RS → Nat × RS} {wide : RS → Nat × RS} (hn : NumOk num wide) {stop : Bool} {b : List UInt8} {c : Cmd} (h : CmdOf b c) : cmdG num wide stop b = (c, ⟨[], false⟩) := by
  obtain ⟨h1, h2⟩ := h
  unfold commandL at h2
  split at h2
  · rename_i hs
    simp only [Prod.mk.injEq, and_true] at h2
    rw [← h2]; exact cmdG_enc hn h1 hs
  · simp at h2
open Classical in
noncomputable def ofCommandL (b : List UInt8) : Cmd × Int := if h : ∃ c, CmdOf b c then (Classical.choose h, 0) else (cmd0, 8)
theorem ofCommandL_some {b : List UInt8} {c : Cmd} (h : CmdOf b c) : ofCommandL b = (c, 0) := by
  unfold ofCommandL
  rw [dif_pos ⟨c, h⟩]
  have h1 := cmdOf_enc numS_ok (stop := false) h
  have h2 := cmdOf_enc numS_ok (stop := false) (Classical.choose_spec (⟨c, h⟩ : ∃ c, CmdOf b c))
  rw [h1] at h2
  have h3 : c = Classical.choose (⟨c, h⟩ : ∃ c, CmdOf b c) := congrArg Prod.fst h2
  rw [← h3]
theorem ofCommandL_e {b : List UInt8} (h : (ofCommandL b).2 = 0) : CmdOf b (ofCommandL b).1 := by
  unfold ofCommandL at h ⊢
  split
  · rename_i h; exact Classical.choose_spec h
  · rename_i h'; rw [dif_neg h'] at h; simp at h
theorem ofCommandL_or (b : List UInt8) : (ofCommandL b).2 = 0 ∨ ofCommandL b = (cmd0, 8) := by
  unfold ofCommandL; split
  · exact .inl rfl
  · exact .inr rfl
theorem cmdG_ok {num : Nat → RS → Nat × RS} {wide : RS → Nat × RS} (hn : NumOk num wide) (stop : Bool) (b : List UInt8) : (cmdG num wide stop b).1.Ok := by
  unfold cmdG
  simp only
  refine ⟨?_, ?_, ?_, ?_⟩
  · have := (byteS ⟨b, false⟩).1.toNat_lt
    simp only; omega
  · have := hn.le 4294967295 (textS (keysGo stop (num 8 (num 4 (byteS ⟨b, false⟩).2).2).1 (num 8 (num 4 (byteS ⟨b, false⟩).2).2).2 []).2).2
    simp only; omega
  all_goals
    simp only
    generalize num 1099511627776 _ = q
    have h1 := hn.wlt q.2
    have h2 := hn.wlt (wide q.2).2
    omega
theorem ofCommand_res {num : Nat → RS → Nat × RS} {wide : RS → Nat × RS} (hn : NumOk num wide) {stop : Bool} {b : List UInt8} :
    (¬ ((cmdG num wide stop b).2.bad = false ∧ (commandL (cmdG num wide stop b).1).2 = 0 ∧ (commandL (cmdG num wide stop b).1).1 = b) → ofCommandL b = (cmd0, 8)) ∧
    ((cmdG num wide stop b).2.bad = false → (commandL (cmdG num wide stop b).1).2 = 0 → (commandL (cmdG num wide stop b).1).1 = b → ofCommandL b = ((cmdG num wide stop b).1, 0)) := by
  refine ⟨fun h => ?_, fun h1 h2 h3 => ofCommandL_some ⟨cmdG_ok hn stop b, Prod.ext h3 h2⟩⟩
  rcases ofCommandL_or b with h0 | h0
  · have hc := ofCommandL_e h0
    have he := cmdOf_enc hn (stop := stop) hc
    rw [he, hc.2] at h
    exact absurd ⟨rfl, rfl, rfl⟩ h
  · exact h0
theorem bytesEqual_spec (a b : List UInt8) (H : Heap) : WC Try.prog 51 [Enc.u8.lst a, Enc.u8.lst b] H fun r H' => r = .bool (decide (a = b)) ∧ H' = H := by
  refine WC_of_K fun K hK => ?_
  have se := fun (H : Heap) (l : List UInt8) => str_enc (T := T) (H := H) (l := l) se30 tk9 tk5
  refine WC_of_body hT Try.func51 rfl (by simp [Try.f51]) (by simp [Try.f51]) (wx_sound hT _ ?_)
  simp only [Try.f51]
  repeat' (first | simp only [go_sem, Nat.reduceLT, Nat.reduceEqDiff, Nat.reduceAdd, Nat.reduceMul, Nat.reduceSub, Nat.reduceLeDiff, Int.reduceToNat, Int.reduceNeg, Int.reduceLT, Int.reduceLE, Int.reduceEq, reduceCtorEq, Int.natCast_zero, Int.natCast_one, Int.cast_ofNat_Int, Bool.not_not, false_eq_decide, true_eq_decide, hread0, hreadk, read_cons0, read_consk, astore_h0, astore_hk, hget0, hgetk, hset0, hsetk, hlen, hcat, Nat.add_assoc, Nat.add_zero, Nat.zero_add, List.length_append, and_true, true_and, AV.flat, *, -hK] | with_reducible refine IfB_dec (fun h => ?_) (fun h => ?_) | with_reducible refine Guard_dec (fun h => ?_) (fun h => ?_) | with_reducible refine Guard_ndec (fun h => ?_) (fun h => ?_) | with_reducible refine Guard_not (fun h => ?_) (fun h => ?_) | with_reducible refine IfB_ndec (fun h => ?_) (fun h => ?_) | with_reducible refine IfB_not (fun h => ?_) (fun h => ?_) | with_reducible refine Guard_split (fun h => ?_) (fun h => ?_) | with_reducible refine IfB_split (fun h => ?_) (fun h => ?_))
  exact hK _ _ ⟨rfl, rfl⟩
theorem Keep.of_set {H G : Heap} {p : Nat} {B : Blk} (h : G = List.set H p B) : Keep (some p) H G := by
  subst h
  exact ⟨by simp, fun b hb hp => List.getElem?_set_ne fun e => hp (by rw [e])⟩
theorem keysGo_false (i : Nat) : ∀ (s : RS) (acc : List (List UInt8)), keysGo false (i + 1) s acc = ((keysGo false i s acc).1 ++ [(textS (keysGo false i s acc).2).1], (textS (keysGo false i s acc).2).2) := by
  induction i with
  | zero => intro s acc; simp [keysGo]
  | succ i ih => intro s acc; rw [keysGo, if_neg (by simp), ih]; rw [keysGo, if_neg (by simp)]
theorem ofCommand_spec (b : List UInt8) (hl : b.length ≤ 140737488355328) (H : Heap) : WC Try.prog 26 [Enc.u8.lst b] H fun r H' => r = .tup [(ofCommandL b).1.av, .int .i64 (ofCommandL b).2] ∧ H' = H := by
  refine WC_val fun K hK => ?_
  have hres := ofCommand_res numS_ok (stop := false) (b := b)
  have hok := cmdG_ok numS_ok false b
  unfold cmdG at hres hok
  simp only at hres hok
  obtain ⟨k0, s1, hk0⟩ : ∃ x s, byteS ⟨b, false⟩ = (x, s) := ⟨_, _, rfl⟩
  have lk0 := byteS_len ⟨b, false⟩
  rw [hk0] at hres hok lk0
  obtain ⟨t0, s2, ht0⟩ : ∃ x s, numS 4 s1 = (x, s) := ⟨_, _, rfl⟩
  have lt0 := numS_len 4 s1
  simp only at hres hok lk0
  rw [ht0] at hres hok lt0
  obtain ⟨n0, s3, hn0⟩ : ∃ x s, numS 8 s2 = (x, s) := ⟨_, _, rfl⟩
  have ln0 := numS_len 8 s2
  have hn8 := numS_le 8 s2
  simp only at hres hok lt0
  rw [hn0] at hres hok ln0 hn8
  simp only at hres hok ln0 hn8
  have b1 := fun (L : Heap) (hb : L[1]? = some ⟨[Enc.u8.lst b, .bool false], 0, .full⟩) => rbyte_spec (H.length + 1) b false hl (H ++ L) (by rw [hgetk]; exact hb)
  have b2 := fun (L : Heap) (hb : L[1]? = some ⟨[Enc.u8.lst s1.l, .bool s1.bad], 0, .full⟩) => num_spec (H.length + 1) 4 (by omega) s1.l s1.bad (by omega) (H ++ L) (by rw [hgetk]; exact hb)
  have b3 := fun (L : Heap) (hb : L[1]? = some ⟨[Enc.u8.lst s2.l, .bool s2.bad], 0, .full⟩) => num_spec (H.length + 1) 8 (by omega) s2.l s2.bad (by omega) (H ++ L) (by rw [hgetk]; exact hb)
  rw [hk0] at b1
  rw [show (⟨s1.l, s1.bad⟩ : RS) = s1 from rfl, ht0] at b2
  rw [show (⟨s2.l, s2.bad⟩ : RS) = s2 from rfl, hn0] at b3
  simp only [RS.blk, Int.cast_ofNat_Int] at b1 b2 b3
  refine WC_of_body hT Try.func26 rfl (by simp [Try.f26]) (by simp [Try.f26]) (wx_sound hT _ ?_)
  simp only [Try.f26]
  repeat' (first | simp only [go_sem, Nat.reduceLT, Nat.reduceEqDiff, Nat.reduceAdd, Nat.reduceMul, Nat.reduceSub, Nat.reduceLeDiff, Int.reduceToNat, Int.reduceNeg, Int.reduceLT, Int.reduceLE, Int.reduceEq, reduceCtorEq, Int.natCast_zero, Int.natCast_one, Int.cast_ofNat_Int, Bool.not_not, false_eq_decide, true_eq_decide, hread0, hreadk, read_cons0, read_consk, astore_h0, astore_hk, hget0, hgetk, hset0, hsetk, hlen, hcat, Nat.add_assoc, Nat.add_zero, Nat.zero_add, List.length_append, and_true, true_and, AV.flat, *, -hK, -b1, -b2, -b3, -hk0, -ht0, -hn0, -hres] | refine WC.call (b1 _ rfl) ?_ | refine WC.call (b2 _ rfl) ?_ | refine WC.call (b3 _ rfl) ?_ | with_reducible refine IfB_dec (fun h => ?_) (fun h => ?_) | with_reducible refine Guard_dec (fun h => ?_) (fun h => ?_) | with_reducible refine Guard_ndec (fun h => ?_) (fun h => ?_) | with_reducible refine Guard_not (fun h => ?_) (fun h => ?_) | with_reducible refine IfB_ndec (fun h => ?_) (fun h => ?_) | with_reducible refine IfB_not (fun h => ?_) (fun h => ?_) | with_reducible refine Guard_split (fun h => ?_) (fun h => ?_) | with_reducible refine IfB_split (fun h => ?_) (fun h => ?_))
  clear b1 b2 b3
  have hk1 : (keysGo false n0 s3 []).1.length ≤ 8 := by have := (keysGo_len (stop := false) n0 s3 []).1; simp at this; omega
  refine WX_loopS [0, 2, 4, 5, 17] (fun k fr' H' => ∃ (i : Nat) (v : AV), k = n0 - i ∧ i ≤ n0 ∧ fr'.get 18 = .int .i64 i ∧ H'[H.length]? = some ⟨[.int .u8 0, .int .i64 0, .nils, .str [], .int .u32 0, .int .i64 0, .int .u64 0, .int .u64 0], 0, .full⟩ ∧
    H'[H.length + 1]? = some (keysGo false i s3 []).2.blk ∧ H'[H.length + 2]? = some ⟨[.int .u8 k0.toNat, .int .i64 t0, v, .str [], .int .u32 0, .int .i64 0, .int .u64 0, .int .u64 0], 0, .full⟩ ∧
    OwnE Enc.str (H.length + 3) H' v (keysGo false i s3 []).1 ∧ Keep none H H') n0 ⟨0, .nils, rfl, by omega, by simp only [go_sem, Nat.reduceLT, Nat.reduceEqDiff, Nat.reduceAdd, Nat.reduceMul, Nat.reduceSub, Nat.reduceLeDiff, Int.reduceToNat, Int.reduceNeg, Int.reduceLT, Int.reduceLE, Int.reduceEq, reduceCtorEq]; rfl, by rw [hget0]; rfl, by rw [hgetk]; rfl, by rw [hgetk]; rfl, OwnE.nils _ _ _, Keep.app _ _ _⟩ ?_
  rintro k fr' H' A R hA hs hg hR ⟨i, v, rfl, hi, f18, hz, hr, hc, ov, kk⟩
  have s0 := hg 0 (by decide)
  have s2 := hg 2 (by decide)
  have s4 := hg 4 (by decide)
  have s5 := hg 5 (by decide)
  have s17 := hg 17 (by decide)
  simp only [Fr.get_put, Fr.get_init, List.getD_cons_zero, List.getD_cons_succ, Nat.reduceEqDiff, if_true, if_false] at s0 s2 s4 s5 s17
  have hkl := keysGo_len (stop := false) i s3 []
  have hks := keysGo_false i s3 []
  have hv := ov.one
  have hvb : ∀ b, v.blk = some b → H.length + 3 ≤ b ∧ b < H'.length := fun b hb => ⟨ov.ge hb, ov.lt hb⟩
  have hH : H.length + 3 ≤ H'.length := by have := (List.getElem?_eq_some_iff.1 hc).1; omega
  by_cases hlt : i < n0
  · generalize hq : keysGo false i s3 [] = q at *
    obtain ⟨ks, s⟩ := q
    simp only [RS.blk, List.length_nil, Nat.zero_add] at hr hkl hks ov
    refine wx_sound hT _ ?_
    have h1 : (i : Int) < n0 := by omega
    have e3 := inc_id hlt (show n0 ≤ 140737488355328 by omega)
    repeat' (first | simp only [go_sem, Nat.reduceLT, Nat.reduceEqDiff, Nat.reduceAdd, Nat.reduceMul, Nat.reduceSub, Nat.reduceLeDiff, Int.reduceToNat, Int.reduceNeg, Int.reduceLT, Int.reduceLE, Int.reduceEq, reduceCtorEq, Int.natCast_zero, Int.natCast_one, Int.cast_ofNat_Int, Bool.not_not, false_eq_decide, true_eq_decide, hread0, hreadk, read_cons0, read_consk, astore_h0, astore_hk, hget0, hgetk, hset0, hsetk, hlen, hcat, Nat.add_assoc, Nat.add_zero, Nat.zero_add, List.length_append, and_true, true_and, AV.flat, hc, get_app hc, read_get hc, read_app hc, hr, get_app hr, read_get hr, read_app hr, hv, one_solid hv, one_cells hv, *, -hK, -hq, -hks, -hk0, -ht0, -hn0, -hres] | with_reducible refine IfB_dec (fun h => ?_) (fun h => ?_) | with_reducible refine Guard_dec (fun h => ?_) (fun h => ?_) | with_reducible refine Guard_ndec (fun h => ?_) (fun h => ?_) | with_reducible refine Guard_not (fun h => ?_) (fun h => ?_) | with_reducible refine IfB_ndec (fun h => ?_) (fun h => ?_) | with_reducible refine IfB_not (fun h => ?_) (fun h => ?_) | with_reducible refine Guard_split (fun h => ?_) (fun h => ?_) | with_reducible refine IfB_split (fun h => ?_) (fun h => ?_))
    refine WX_rows hT hmix [(0, none), (1, none), (2, none), (3, some [true, false, false]), (4, none), (5, some [true, true, true, true, true]), (6, none), (7, some [true, true, true, true, true, true, true])] (by kernel_rfl) ?_
    repeat' (first | simp only [go_sem, Nat.reduceLT, Nat.reduceEqDiff, Nat.reduceAdd, Nat.reduceMul, Nat.reduceSub, Nat.reduceLeDiff, Int.reduceToNat, Int.reduceNeg, Int.reduceLT, Int.reduceLE, Int.reduceEq, reduceCtorEq, Int.natCast_zero, Int.natCast_one, Int.cast_ofNat_Int, Bool.not_not, false_eq_decide, true_eq_decide, hread0, hreadk, read_cons0, read_consk, astore_h0, astore_hk, hget0, hgetk, hset0, hsetk, hlen, hcat, Nat.add_assoc, Nat.add_zero, Nat.zero_add, List.length_append, and_true, true_and, AV.flat, hc, get_app hc, read_get hc, read_app hc, hr, get_app hr, read_get hr, read_app hr, hv, one_solid hv, one_cells hv, *, -hK, -hq, -hks, -hk0, -ht0, -hn0, -hres] | with_reducible refine IfB_dec (fun h => ?_) (fun h => ?_) | with_reducible refine Guard_dec (fun h => ?_) (fun h => ?_) | with_reducible refine Guard_ndec (fun h => ?_) (fun h => ?_) | with_reducible refine Guard_not (fun h => ?_) (fun h => ?_) | with_reducible refine IfB_ndec (fun h => ?_) (fun h => ?_) | with_reducible refine IfB_not (fun h => ?_) (fun h => ?_) | with_reducible refine Guard_split (fun h => ?_) (fun h => ?_) | with_reducible refine IfB_split (fun h => ?_) (fun h => ?_))
    refine (rtext_spec (H.length + 1) s.l s.bad (by omega) _ hr).mono ?_
    rintro r G ⟨rfl, hG⟩
    have kG := Keep.of_set hG
    have hlG : G.length = H'.length := by rw [hG, List.length_set]
    have hrG : G[H.length + 1]? = some (textS s).2.blk := by rw [hG]; exact get_set hr _
    have hzG := kG.get hz (by simp)
    have hcG := kG.get hc (by simp)
    have ovG := ov.keep kG (fun b hb e => by cases hb; have := hvb _ e; omega)
    have kkG : Keep none H G := ⟨by omega, fun b hb _ => by rw [kG.at_ b (by omega) (by simp; omega)]; exact kk.at_ b hb (by simp)⟩
    repeat' (first | simp only [go_sem, Nat.reduceLT, Nat.reduceEqDiff, Nat.reduceAdd, Nat.reduceMul, Nat.reduceSub, Nat.reduceLeDiff, Int.reduceToNat, Int.reduceNeg, Int.reduceLT, Int.reduceLE, Int.reduceEq, reduceCtorEq, Int.natCast_zero, Int.natCast_one, Int.cast_ofNat_Int, Bool.not_not, false_eq_decide, true_eq_decide, hread0, hreadk, read_cons0, read_consk, astore_h0, astore_hk, hget0, hgetk, hset0, hsetk, hlen, hcat, Nat.add_assoc, Nat.add_zero, Nat.zero_add, List.length_append, and_true, true_and, AV.flat, hcG, get_app hcG, read_get hcG, read_app hcG, hv, one_solid hv, one_cells hv, *, -hK, -hq, -hks, -hk0, -ht0, -hn0, -hres, -hG, -hlG] | with_reducible refine IfB_dec (fun h => ?_) (fun h => ?_) | with_reducible refine Guard_dec (fun h => ?_) (fun h => ?_) | with_reducible refine Guard_ndec (fun h => ?_) (fun h => ?_) | with_reducible refine Guard_not (fun h => ?_) (fun h => ?_) | with_reducible refine IfB_ndec (fun h => ?_) (fun h => ?_) | with_reducible refine IfB_not (fun h => ?_) (fun h => ?_) | with_reducible refine Guard_split (fun h => ?_) (fun h => ?_) | with_reducible refine IfB_split (fun h => ?_) (fun h => ?_))
    refine append1_enc (E := Enc.str) (m := H.length + 3) (x := (textS s).1) ovG rfl se42 az9 td9 tk42 rfl rfl (by decide) (by show (ks.length + 1) * 17 ≤ _; omega) (by omega) ?_
    intro v' H4 o4 k4 hn4
    have hv4 := o4.one
    have hvb4 : ∀ b, v'.blk = some b → H.length + 3 ≤ b := fun b hb => o4.ge hb
    have hr4 := k4.get hrG (fun e => by have := hvb _ e; omega)
    have hz4 := k4.get hzG (fun e => by have := hvb _ e; omega)
    have hc4 := k4.get hcG (fun e => by have := hvb _ e; omega)
    have kk4 : Keep none H H4 := ⟨by have := k4.len; omega, fun b hb _ => by rw [k4.at_ b (by omega) (fun e => by have := hvb _ e; omega)]; exact kkG.at_ b hb (by simp)⟩
    have hl4 := k4.len
    repeat' (first | simp only [go_sem, Nat.reduceLT, Nat.reduceEqDiff, Nat.reduceAdd, Nat.reduceMul, Nat.reduceSub, Nat.reduceLeDiff, Int.reduceToNat, Int.reduceNeg, Int.reduceLT, Int.reduceLE, Int.reduceEq, reduceCtorEq, Int.natCast_zero, Int.natCast_one, Int.cast_ofNat_Int, Bool.not_not, false_eq_decide, true_eq_decide, hread0, hreadk, read_cons0, read_consk, astore_h0, astore_hk, hget0, hgetk, hset0, hsetk, hlen, hcat, Nat.add_assoc, Nat.add_zero, Nat.zero_add, List.length_append, and_true, true_and, AV.flat, hc4, get_app hc4, read_get hc4, read_app hc4, astore_get hc4, astore_app hc4, get_set hc4, get_set_app hc4, read_set hc4, read_set_app hc4, astore_set hc4, astore_set_app hc4, List.set_set, hget0s, hgetks, hread0s, hreadks, List.length_set, hv4, one_solid hv4, one_cells hv4, *, -hK, -hq, -hks, -hk0, -ht0, -hn0, -hres, -hG, -hlG] | with_reducible refine IfB_dec (fun h => ?_) (fun h => ?_) | with_reducible refine Guard_dec (fun h => ?_) (fun h => ?_) | with_reducible refine Guard_ndec (fun h => ?_) (fun h => ?_) | with_reducible refine Guard_not (fun h => ?_) (fun h => ?_) | with_reducible refine IfB_ndec (fun h => ?_) (fun h => ?_) | with_reducible refine IfB_not (fun h => ?_) (fun h => ?_) | with_reducible refine Guard_split (fun h => ?_) (fun h => ?_) | with_reducible refine IfB_split (fun h => ?_) (fun h => ?_))
    refine hR _ _ (by (repeat (first | exact hs | refine hA _ _ _ (by decide) ?_))) (n0 - (i + 1)) (by omega) ⟨i + 1, v', rfl, by omega, by simp only [go_sem, Nat.reduceLT, Nat.reduceEqDiff, Nat.reduceAdd, Nat.reduceMul, Nat.reduceSub, Nat.reduceLeDiff, Int.reduceToNat, Int.reduceNeg, Int.reduceLT, Int.reduceLE, Int.reduceEq, reduceCtorEq], ?_, ?_, get_set hc4 _, ?_, ?_⟩
    · rw [List.getElem?_set_ne (by omega)]; exact hz4
    · rw [List.getElem?_set_ne (by omega), hks]; exact hr4
    · rw [hks]; exact o4.keep (Keep.of_set rfl) (fun b hb e => by cases hb; have := hvb4 _ e; omega)
    · exact ⟨by rw [List.length_set]; omega, fun b hb _ => by rw [List.getElem?_set_ne (by omega)]; exact kk4.at_ b hb (by simp)⟩
  · obtain rfl : i = n0 := by omega
    obtain ⟨ks, s4, hks4⟩ : ∃ x s, keysGo false i s3 [] = (x, s) := ⟨_, _, rfl⟩
    rw [hks4] at hres hok hr ov hk1 hkl
    simp only [RS.blk] at hres hok hr ov hk1 hkl
    refine WX_freeze (n := ks.length) ov (Enc.row_flat (E := Enc.str) ks) (Enc.row_length ks) (by decide) hc (fun e => by have := hvb _ e; omega) (C := ⟨[.int .u8 k0.toNat, .int .i64 t0, Enc.str.lst ks, .str [], .int .u32 0, .int .i64 0, .int .u64 0, .int .u64 0], 0, .full⟩) rfl rfl ⟨.inl rfl, .inl rfl, .inr ⟨rfl, rfl⟩, .inl rfl, .inl rfl, .inl rfl, .inl rfl, .inl rfl, trivial⟩ ?_
    intro G hlG hcG hoG
    have hrG := hoG (H.length + 1) (fun e => by have := hvb _ e; omega) (by omega)
    have hzG := hoG H.length (fun e => by have := hvb _ e; omega) (by omega)
    rw [hr] at hrG
    rw [hz] at hzG
    have kG : Keep none H G := ⟨by omega, fun b hb _ => by rw [hoG b (fun e => by have := hvb _ e; omega) (by omega)]; exact kk.at_ b hb (by simp)⟩
    clear hoG hr hz hc ov hvb kk hR hs hA hks
    obtain ⟨v0, s5, hv0⟩ : ∃ x s, textS s4 = (x, s) := ⟨_, _, rfl⟩
    have lv0 := textS_len s4
    rw [hv0] at hres hok lv0
    obtain ⟨f0, s6, hf0⟩ : ∃ x s, numS 4294967295 s5 = (x, s) := ⟨_, _, rfl⟩
    have lf0 := numS_len 4294967295 s5
    have mf0 := numS_le 4294967295 s5
    simp only at hres hok lv0
    rw [hf0] at hres hok lf0 mf0
    obtain ⟨d0, s7, hd0⟩ : ∃ x s, numS 1099511627776 s6 = (x, s) := ⟨_, _, rfl⟩
    have ld0 := numS_len 1099511627776 s6
    simp only at hres hok lf0 mf0
    rw [hd0] at hres hok ld0
    obtain ⟨u0, s8, hu0⟩ : ∃ x s, wideS s7 = (x, s) := ⟨_, _, rfl⟩
    have lu0 := wideS_len s7
    simp only at hres hok ld0
    rw [hu0] at hres hok lu0
    obtain ⟨y0, s9, hy0⟩ : ∃ x s, wideS s8 = (x, s) := ⟨_, _, rfl⟩
    simp only at hres hok lu0
    rw [hy0] at hres hok
    simp only at hres hok
    have c1 := rtext_spec (H.length + 1) s4.l s4.bad (by omega) G hrG
    have c2 := num_spec (H.length + 1) 4294967295 (by omega) s5.l s5.bad (by omega) _ (get_set hrG ⟨[Enc.u8.lst s5.l, .bool s5.bad], 0, .full⟩)
    have c3 := num_spec (H.length + 1) 1099511627776 (by omega) s6.l s6.bad (by omega) _ (get_set hrG ⟨[Enc.u8.lst s6.l, .bool s6.bad], 0, .full⟩)
    have c4 := wide_spec (H.length + 1) s7.l s7.bad (by omega) _ (get_set hrG ⟨[Enc.u8.lst s7.l, .bool s7.bad], 0, .full⟩)
    have c5 := wide_spec (H.length + 1) s8.l s8.bad (by omega) _ (get_set hrG ⟨[Enc.u8.lst s8.l, .bool s8.bad], 0, .full⟩)
    rw [show (⟨s4.l, s4.bad⟩ : RS) = s4 from rfl, hv0] at c1
    rw [show (⟨s5.l, s5.bad⟩ : RS) = s5 from rfl, hf0, List.set_set] at c2
    rw [show (⟨s6.l, s6.bad⟩ : RS) = s6 from rfl, hd0, List.set_set] at c3
    rw [show (⟨s7.l, s7.bad⟩ : RS) = s7 from rfl, hu0, List.set_set] at c4
    rw [show (⟨s8.l, s8.bad⟩ : RS) = s8 from rfl, hy0, List.set_set] at c5
    simp only [RS.blk, Int.cast_ofNat_Int] at c1 c2 c3 c4 c5
    have h1 : ¬ (i : Int) < i := by omega
    have hw : IntKind.u32.wrap f0 = f0 := by rw [IntKind.wrap_u32]; omega
    refine wx_sound hT _ ?_
    repeat' (first | simp only [go_sem, Nat.reduceLT, Nat.reduceEqDiff, Nat.reduceAdd, Nat.reduceMul, Nat.reduceSub, Nat.reduceLeDiff, Int.reduceToNat, Int.reduceNeg, Int.reduceLT, Int.reduceLE, Int.reduceEq, reduceCtorEq, Int.natCast_zero, Int.natCast_one, Int.cast_ofNat_Int, Bool.not_not, false_eq_decide, true_eq_decide, hread0, hreadk, read_cons0, read_consk, astore_h0, astore_hk, hget0, hgetk, hset0, hsetk, hlen, hcat, Nat.add_assoc, Nat.add_zero, Nat.zero_add, List.length_append, and_true, true_and, AV.flat, hcG, get_app hcG, read_get hcG, read_app hcG, hrG, get_app hrG, read_get hrG, read_app hrG, *, -hK, -c1, -c2, -c3, -c4, -c5, -hk0, -ht0, -hn0, -hv0, -hf0, -hd0, -hu0, -hy0, -hres, -hlG, -hks4] | refine WC.call (c1) ?_ | refine WC.call (c2) ?_ | refine WC.call (c3) ?_ | refine WC.call (c4) ?_ | refine WC.call (c5) ?_ | with_reducible refine IfB_dec (fun h => ?_) (fun h => ?_) | with_reducible refine Guard_dec (fun h => ?_) (fun h => ?_) | with_reducible refine Guard_ndec (fun h => ?_) (fun h => ?_) | with_reducible refine Guard_not (fun h => ?_) (fun h => ?_) | with_reducible refine IfB_ndec (fun h => ?_) (fun h => ?_) | with_reducible refine IfB_not (fun h => ?_) (fun h => ?_) | with_reducible refine Guard_split (fun h => ?_) (fun h => ?_) | with_reducible refine IfB_split (fun h => ?_) (fun h => ?_))
    clear c1 c2 c3 c4 c5
    generalize hG2 : List.set G (H.length + 1) (⟨[Enc.u8.lst s9.l, .bool s9.bad], 0, .full⟩ : Blk) = G2
    have hr2 : G2[H.length + 1]? = some ⟨[Enc.u8.lst s9.l, .bool s9.bad], 0, .full⟩ := by rw [← hG2]; exact get_set hrG _
    have hc2 := (Keep.of_set hG2.symm).get hcG (by simp)
    have hz2 := (Keep.of_set hG2.symm).get hzG (by simp)
    have hl2 : G2.length = G.length := by rw [← hG2, List.length_set]
    have k2 : Keep none H G2 := ⟨by omega, fun b hb _ => by rw [(Keep.of_set hG2.symm).at_ b (by omega) (by simp; omega)]; exact kG.at_ b hb (by simp)⟩
    clear hG2 hrG hcG hzG kG
    repeat' (first | simp only [go_sem, Nat.reduceLT, Nat.reduceEqDiff, Nat.reduceAdd, Nat.reduceMul, Nat.reduceSub, Nat.reduceLeDiff, Int.reduceToNat, Int.reduceNeg, Int.reduceLT, Int.reduceLE, Int.reduceEq, reduceCtorEq, Int.natCast_zero, Int.natCast_one, Int.cast_ofNat_Int, Bool.not_not, false_eq_decide, true_eq_decide, hread0, hreadk, read_cons0, read_consk, astore_h0, astore_hk, hget0, hgetk, hset0, hsetk, hlen, hcat, Nat.add_assoc, Nat.add_zero, Nat.zero_add, List.length_append, and_true, true_and, AV.flat, hc2, get_app hc2, read_get hc2, read_app hc2, astore_get hc2, astore_app hc2, get_set hc2, get_set_app hc2, read_set hc2, read_set_app hc2, astore_set hc2, astore_set_app hc2, List.set_set, hget0s, hgetks, hread0s, hreadks, List.length_set, *, -hK, -hk0, -ht0, -hn0, -hv0, -hf0, -hd0, -hu0, -hy0, -hres, -hlG, -hks4, -hl2] | with_reducible refine IfB_dec (fun h => ?_) (fun h => ?_) | with_reducible refine Guard_dec (fun h => ?_) (fun h => ?_) | with_reducible refine Guard_ndec (fun h => ?_) (fun h => ?_) | with_reducible refine Guard_not (fun h => ?_) (fun h => ?_) | with_reducible refine IfB_ndec (fun h => ?_) (fun h => ?_) | with_reducible refine IfB_not (fun h => ?_) (fun h => ?_) | with_reducible refine Guard_split (fun h => ?_) (fun h => ?_) | with_reducible refine IfB_split (fun h => ?_) (fun h => ?_))
    generalize hG3 : List.set G2 (H.length + 2) (⟨[.int .u8 k0.toNat, .int .i64 t0, Enc.str.lst ks, .str v0, .int .u32 f0, .int .i64 d0, .int .u64 u0, .int .u64 y0], 0, .full⟩ : Blk) = G3
    have hc3 : G3[H.length + 2]? = some ⟨[.int .u8 k0.toNat, .int .i64 t0, Enc.str.lst ks, .str v0, .int .u32 f0, .int .i64 d0, .int .u64 u0, .int .u64 y0], 0, .full⟩ := by rw [← hG3]; exact get_set hc2 _
    have hr3 := (Keep.of_set hG3.symm).get hr2 (by simp)
    have hz3 := (Keep.of_set hG3.symm).get hz2 (by simp)
    have hl3 : G3.length = G2.length := by rw [← hG3, List.length_set]
    have k3 : Keep none H G3 := ⟨by omega, fun b hb _ => by rw [(Keep.of_set hG3.symm).at_ b (by omega) (by simp; omega)]; exact k2.at_ b hb (by simp)⟩
    clear hG3 hr2 hc2 hz2 k2
    have k4 : ∀ B : Blk, Keep none H (List.set G3 H.length B) := fun B => ⟨by rw [List.length_set]; exact k3.len, fun b hb _ => by rw [List.getElem?_set_ne (by omega)]; exact k3.at_ b hb (by simp)⟩
    have cp := fun J => commandP ⟨k0.toNat, t0, ks, v0, f0, d0, u0, y0⟩ hok (by show ks.length ≤ _; omega) J
    unfold Cmd.av at cp
    generalize hce : commandL ⟨k0.toNat, t0, ks, v0, f0, d0, u0, y0⟩ = ce at *
    obtain ⟨a, e⟩ := ce
    simp only at hres cp
    obtain ⟨hbad, hgood⟩ := hres
    by_cases hx : s9.bad = false ∧ e = 0 ∧ a = b
    · obtain ⟨x1, rfl, rfl⟩ := hx
      rw [hgood x1 rfl rfl] at hK
      simp only [Cmd.av] at hK
      clear hbad hgood hok hce
      repeat' (first | simp only [go_sem, Nat.reduceLT, Nat.reduceEqDiff, Nat.reduceAdd, Nat.reduceMul, Nat.reduceSub, Nat.reduceLeDiff, Int.reduceToNat, Int.reduceNeg, Int.reduceLT, Int.reduceLE, Int.reduceEq, reduceCtorEq, Int.natCast_zero, Int.natCast_one, Int.cast_ofNat_Int, Bool.not_not, false_eq_decide, true_eq_decide, hread0, hreadk, read_cons0, read_consk, astore_h0, astore_hk, hget0, hgetk, hset0, hsetk, hlen, hcat, Nat.add_assoc, Nat.add_zero, Nat.zero_add, List.length_append, and_true, true_and, AV.flat, hc3, get_app hc3, read_get hc3, read_app hc3, hr3, get_app hr3, read_get hr3, read_app hr3, hz3, get_app hz3, read_get hz3, read_app hz3, astore_get hz3, astore_app hz3, get_set hz3, get_set_app hz3, read_set hz3, read_set_app hz3, astore_set hz3, astore_set_app hz3, List.set_set, hget0s, hgetks, hread0s, hreadks, List.length_set, *, -hK, -hk0, -ht0, -hn0, -hv0, -hf0, -hd0, -hu0, -hy0, -hlG, -hks4, -hl2, -hl3, -cp] | refine WC.call (cp _) ?_ | refine WC.call (bytesEqual_spec _ _ _) ?_ | with_reducible refine IfB_dec (fun h => ?_) (fun h => ?_) | with_reducible refine Guard_dec (fun h => ?_) (fun h => ?_) | with_reducible refine Guard_ndec (fun h => ?_) (fun h => ?_) | with_reducible refine Guard_not (fun h => ?_) (fun h => ?_) | with_reducible refine IfB_ndec (fun h => ?_) (fun h => ?_) | with_reducible refine IfB_not (fun h => ?_) (fun h => ?_) | with_reducible refine Guard_split (fun h => ?_) (fun h => ?_) | with_reducible refine IfB_split (fun h => ?_) (fun h => ?_))
      exact hK _ _ (Thaw.tup_row ⟨Thaw.agg_row ⟨.int _ _, .int _ _, .lst _ _, .str _, .int _ _, .int _ _, .int _ _, .int _ _, trivial⟩, .int _ _, trivial⟩) (k4 _)
    · rw [hbad hx] at hK
      simp only [Cmd.av, cmd0] at hK
      clear hbad hgood hok hce
      repeat' (first | simp only [go_sem, Nat.reduceLT, Nat.reduceEqDiff, Nat.reduceAdd, Nat.reduceMul, Nat.reduceSub, Nat.reduceLeDiff, Int.reduceToNat, Int.reduceNeg, Int.reduceLT, Int.reduceLE, Int.reduceEq, reduceCtorEq, Int.natCast_zero, Int.natCast_one, Int.cast_ofNat_Int, Bool.not_not, false_eq_decide, true_eq_decide, hread0, hreadk, read_cons0, read_consk, astore_h0, astore_hk, hget0, hgetk, hset0, hsetk, hlen, hcat, Nat.add_assoc, Nat.add_zero, Nat.zero_add, List.length_append, and_true, true_and, AV.flat, hc3, get_app hc3, read_get hc3, read_app hc3, hr3, get_app hr3, read_get hr3, read_app hr3, hz3, get_app hz3, read_get hz3, read_app hz3, astore_get hz3, astore_app hz3, get_set hz3, get_set_app hz3, read_set hz3, read_set_app hz3, astore_set hz3, astore_set_app hz3, List.set_set, hget0s, hgetks, hread0s, hreadks, List.length_set, *, -hK, -hk0, -ht0, -hn0, -hv0, -hf0, -hd0, -hu0, -hy0, -hlG, -hks4, -hl2, -hl3, -cp, -hx] | refine WC.call (cp _) ?_ | refine WC.call (bytesEqual_spec _ _ _) ?_ | with_reducible refine IfB_dec (fun h => ?_) (fun h => ?_) | with_reducible refine Guard_dec (fun h => ?_) (fun h => ?_) | with_reducible refine Guard_ndec (fun h => ?_) (fun h => ?_) | with_reducible refine Guard_not (fun h => ?_) (fun h => ?_) | with_reducible refine IfB_ndec (fun h => ?_) (fun h => ?_) | with_reducible refine IfB_not (fun h => ?_) (fun h => ?_) | with_reducible refine Guard_split (fun h => ?_) (fun h => ?_) | with_reducible refine IfB_split (fun h => ?_) (fun h => ?_))
      all_goals first
        | exact hK _ _ (Thaw.tup_row ⟨Thaw.agg_row ⟨.int _ _, .int _ _, .nils, .str _, .int _ _, .int _ _, .int _ _, .int _ _, trivial⟩, .int _ _, trivial⟩) (k4 _)
        | exact absurd ⟨‹_›, ‹_›, ‹_›⟩ hx
        | trace_state
end Go.Proofs.Ytakmlfbejbelaaa
