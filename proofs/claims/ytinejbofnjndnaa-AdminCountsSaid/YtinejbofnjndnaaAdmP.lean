import Derived.Test.YtinejbofnjndnaaAdmM
set_option linter.unusedSimpArgs false
set_option linter.unusedVariables false
set_option maxRecDepth 100000
set_option maxHeartbeats 4000000
namespace Go.Proofs.Ytinejbofnjndnaa
open Go Go.Proofs Go.Proofs.PI
structure CtI (H G : Heap) (v : AV) (A C R : List AV) (dr : Bool) (ts : List Stat) : Prop where
  ow : OwnE statE (H.length + 5) G v ts
  g0 : G[H.length]? = some ⟨A, 0, .full⟩
  g1 : G[H.length + 1]? = some ⟨C, 0, .full⟩
  g2 : G[H.length + 2]? = some ⟨R, 0, .full⟩
  g3 : G[H.length + 3]? = some ⟨[.nils, .bool false], 0, .full⟩
  g4 : G[H.length + 4]? = some ⟨[v, .bool dr], 0, .full⟩
  ke : Keep none H G
theorem CtI.keep {H G G' : Heap} {v : AV} {A C R : List AV} {dr : Bool} {ts : List Stat} (h : CtI H G v A C R dr ts) (k : Keep none G G') : CtI H G' v A C R dr ts :=
  ⟨h.ow.keep k (fun b hb => by cases hb), k.get h.g0 (by simp), k.get h.g1 (by simp), k.get h.g2 (by simp), k.get h.g3 (by simp), k.get h.g4 (by simp), h.ke.trans k⟩
theorem CtI.app {H G G' : Heap} {v v' : AV} {A C R : List AV} {dr : Bool} {ts ts' : List Stat} (h : CtI H G v A C R dr ts) (o : OwnE statE (H.length + 5) G' v' ts') (k : Keep v.blk G G') :
    CtI H (List.set G' (H.length + 4) ⟨[v', .bool dr], 0, .full⟩) v' A C R dr ts' := by
  have hne : ∀ q, q < H.length + 5 → v.blk ≠ some q := fun q hq e => by have := h.ow.ge e; omega
  have hl : H.length + 4 < G'.length := Nat.lt_of_lt_of_le (List.getElem?_eq_some_iff.1 h.g4).1 k.len
  refine ⟨OwnE.keep o (Keep.of_set rfl) (fun b hb e => by cases hb; have := o.ge e; omega), ?_, ?_, ?_, ?_, List.getElem?_set_self hl, ⟨by rw [List.length_set]; exact Nat.le_trans h.ke.len k.len, fun b hb _ => ?_⟩⟩
  · rw [List.getElem?_set_ne (by omega)]; exact k.get h.g0 (hne _ (by omega))
  · rw [List.getElem?_set_ne (by omega)]; exact k.get h.g1 (hne _ (by omega))
  · rw [List.getElem?_set_ne (by omega)]; exact k.get h.g2 (hne _ (by omega))
  · rw [List.getElem?_set_ne (by omega)]; exact k.get h.g3 (hne _ (by omega))
  · rw [List.getElem?_set_ne (by omega), k.at_ b (Nat.lt_of_lt_of_le hb h.ke.len) (hne b (by omega))]
    exact h.ke.at_ b hb (by simp)
theorem addv2 (s : Stat) (h : s.rng) (n : Int) : s.addv (unitS 2 n) = ⟨s.gets, s.hits, mx (s.puts + n), s.del, s.evi, s.ref⟩ := (upd_addv s n h 2 (by decide)).symm
theorem addv3 (s : Stat) (h : s.rng) (n : Int) : s.addv (unitS 3 n) = ⟨s.gets, s.hits, s.puts, mx (s.del + n), s.evi, s.ref⟩ := (upd_addv s n h 3 (by decide)).symm
theorem addv4 (s : Stat) (h : s.rng) (n : Int) : s.addv (unitS 4 n) = ⟨s.gets, s.hits, s.puts, s.del, mx (s.evi + n), s.ref⟩ := (upd_addv s n h 4 (by decide)).symm
theorem addv5 (s : Stat) (h : s.rng) (n : Int) : s.addv (unitS 5 n) = ⟨s.gets, s.hits, s.puts, s.del, s.evi, mx (s.ref + n)⟩ := (upd_addv s n h 5 (by decide)).symm
theorem addv01 (s : Stat) (h : s.rng) (n m : Int) : s.addv ((unitS 0 n).add (unitS 1 m)) = ⟨mx (s.gets + n), mx (s.hits + m), s.puts, s.del, s.evi, s.ref⟩ := by
  obtain ⟨h1, h2, h3, h4, h5, h6⟩ := h
  simp only [Stat.addv, Stat.add, unitS, Stat.upd, stat0, mx, inC, Stat.mk.injEq] at *
  omega
theorem addv015 (s : Stat) (h : s.rng) (n m k : Int) : s.addv (((unitS 0 n).add (unitS 1 m)).add (unitS 5 k)) = ⟨mx (s.gets + n), mx (s.hits + m), s.puts, s.del, s.evi, mx (s.ref + k)⟩ := by
  obtain ⟨h1, h2, h3, h4, h5, h6⟩ := h
  simp only [Stat.addv, Stat.add, unitS, Stat.upd, stat0, mx, inC, Stat.mk.injEq] at *
  omega
theorem counted_spec (a : Adm) (c : Cmd) (r : Res) (l : List Chg) (hn : a.ts.length ≤ 1000000) (hm : a.may) (hk : c.keys.length ≤ 1000) (hri : r.its.length ≤ 1000) (hl : l.length ≤ 140737488355328) (hfa : ∀ x ∈ l, (0 ≤ x.ten ∧ x.ten < 4)) (hw : ∀ x ∈ l, x.kind = 2 → x.why = 1 ∨ x.why = 2) (H : Heap) :
    WC Try.prog 36 [a.av, c.av, r.av, chgE.lst l] H fun w H' => w = .agg [statE.lst (moreL a.ts (cntD c r l)), .bool a.dr] ∧ H' = H := by
  refine WC_val fun K hK => ?_
  unfold Adm.av Cmd.av Res.av
  refine WC_of_body hT Try.func36 rfl (by simp [Try.f36]) (by simp [Try.f36]) (wx_sound hT _ ?_)
  simp only [Try.f36]
  repeat' (first | simp only [go_sem, Nat.reduceLT, Nat.reduceEqDiff, Nat.reduceAdd, Nat.reduceMul, Nat.reduceSub, Nat.reduceLeDiff, Int.reduceToNat, Int.reduceNeg, Int.reduceLT, Int.reduceLE, Int.reduceEq, reduceCtorEq, Int.natCast_zero, Int.natCast_one, Int.cast_ofNat_Int, Bool.not_not, false_eq_decide, true_eq_decide, hread0, hreadk, read_cons0, read_consk, astore_h0, astore_hk, hget0, hgetk, hset0, hsetk, hlen, hcat, Nat.add_assoc, Nat.add_zero, Nat.zero_add, List.length_append, and_true, true_and, AV.flat, *, -hK, -hm, -hfa, -hw] | with_reducible refine IfB_dec (fun h => ?_) (fun h => ?_) | with_reducible refine Guard_dec (fun h => ?_) (fun h => ?_) | with_reducible refine Guard_ndec (fun h => ?_) (fun h => ?_) | with_reducible refine Guard_not (fun h => ?_) (fun h => ?_) | with_reducible refine IfB_ndec (fun h => ?_) (fun h => ?_) | with_reducible refine IfB_not (fun h => ?_) (fun h => ?_) | with_reducible refine Guard_split (fun h => ?_) (fun h => ?_) | with_reducible refine IfB_split (fun h => ?_) (fun h => ?_))
  generalize hG : (H ++ [(⟨[statE.lst a.ts, .bool a.dr], 0, .full⟩ : Blk), (⟨[.int .u8 c.kind, .int .i64 c.ten, Enc.str.lst c.keys, .str c.val, .int .u32 c.flags, .int .i64 c.for_, .int .u64 c.uniq, .int .u64 c.by_], 0, .full⟩ : Blk), (⟨[.int .u8 r.kind, itmE.lst r.its, .int .u64 r.num], 0, .full⟩ : Blk), (⟨[.nils, .bool false], 0, .full⟩ : Blk), (⟨[.nils, .bool a.dr], 0, .full⟩ : Blk)] : Heap) = G0
  have I0 : CtI H G0 .nils [statE.lst a.ts, .bool a.dr] [.int .u8 c.kind, .int .i64 c.ten, Enc.str.lst c.keys, .str c.val, .int .u32 c.flags, .int .i64 c.for_, .int .u64 c.uniq, .int .u64 c.by_] [.int .u8 r.kind, itmE.lst r.its, .int .u64 r.num] a.dr ((moreL a.ts (cntD c r l)).take 0) := by
    refine ⟨OwnE.nils _ _ _, ?_, ?_, ?_, ?_, ?_, by rw [← hG]; exact Keep.app _ _ _⟩
    · rw [← hG, hget0]; rfl
    all_goals (rw [← hG, hgetk]; rfl)
  clear hG
  refine WX_loopS [3, 4, 5, 6, 8, 9] (fun k fr' H' => ∃ (i : Nat) (v : AV), k = a.ts.length - i ∧ i ≤ a.ts.length ∧ fr'.get 10 = .int .i64 i ∧ CtI H H' v [statE.lst a.ts, .bool a.dr] [.int .u8 c.kind, .int .i64 c.ten, Enc.str.lst c.keys, .str c.val, .int .u32 c.flags, .int .i64 c.for_, .int .u64 c.uniq, .int .u64 c.by_] [.int .u8 r.kind, itmE.lst r.its, .int .u64 r.num] a.dr ((moreL a.ts (cntD c r l)).take i)) a.ts.length ⟨0, _, rfl, by omega, by simp only [go_sem, Nat.reduceLT, Nat.reduceEqDiff, Nat.reduceAdd, Nat.reduceMul, Nat.reduceSub, Nat.reduceLeDiff, Int.reduceToNat, Int.reduceNeg, Int.reduceLT, Int.reduceLE, Int.reduceEq, reduceCtorEq]; rfl, I0⟩ ?_
  clear I0
  rintro k fr' G A R hA hs hg hR ⟨i, v, rfl, hi, f10, I⟩
  have s3 := hg 3 (by decide)
  have s4 := hg 4 (by decide)
  have s5 := hg 5 (by decide)
  have s6 := hg 6 (by decide)
  have s8 := hg 8 (by decide)
  have s9 := hg 9 (by decide)
  simp only [Fr.get_put, Fr.get_init, List.getD_cons_zero, List.getD_cons_succ, Nat.reduceEqDiff, if_true, if_false] at s3 s4 s5 s6 s8 s9
  refine wx_sound hT _ ?_
  have gq0 := I.g0
  have gq1 := I.g1
  have gq2 := I.g2
  have gq3 := I.g3
  have gq4 := I.g4
  by_cases hlt : i < a.ts.length
  rotate_left
  · have i3 : ¬ (i : Int) < a.ts.length := by omega
    rw [List.take_of_length_le (by rw [moreL_len]; omega)] at I
    have hv := I.ow.one
    have hle := I.ke.len
    have hne : ∀ b, v.blk = some b → H.length + 5 ≤ b := fun b hb => I.ow.ge hb
    repeat' (first | simp only [go_sem, Nat.reduceLT, Nat.reduceEqDiff, Nat.reduceAdd, Nat.reduceMul, Nat.reduceSub, Nat.reduceLeDiff, Int.reduceToNat, Int.reduceNeg, Int.reduceLT, Int.reduceLE, Int.reduceEq, reduceCtorEq, Int.natCast_zero, Int.natCast_one, Int.cast_ofNat_Int, Bool.not_not, false_eq_decide, true_eq_decide, hread0, hreadk, read_cons0, read_consk, astore_h0, astore_hk, hget0, hgetk, hset0, hsetk, hlen, hcat, Nat.add_assoc, Nat.add_zero, Nat.zero_add, List.length_append, and_true, true_and, AV.flat, gq0, get_app gq0, read_get gq0, read_app gq0, gq3, get_app gq3, read_get gq3, read_app gq3, astore_get gq3, astore_app gq3, get_set gq3, get_set_app gq3, read_set gq3, read_set_app gq3, astore_set gq3, astore_set_app gq3, List.set_set, hget0s, hgetks, hread0s, hreadks, List.length_set, gq4, get_app gq4, read_get gq4, read_app gq4, hv, one_solid hv, one_cells hv, *, -hK, -hm, -hfa, -hw, -I, -hne, -hR, -gq1, -gq2] | with_reducible refine IfB_dec (fun h => ?_) (fun h => ?_) | with_reducible refine Guard_dec (fun h => ?_) (fun h => ?_) | with_reducible refine Guard_ndec (fun h => ?_) (fun h => ?_) | with_reducible refine Guard_not (fun h => ?_) (fun h => ?_) | with_reducible refine IfB_ndec (fun h => ?_) (fun h => ?_) | with_reducible refine IfB_not (fun h => ?_) (fun h => ?_) | with_reducible refine Guard_split (fun h => ?_) (fun h => ?_) | with_reducible refine IfB_split (fun h => ?_) (fun h => ?_))
    exact hK _ _ (Thaw.agg_row ⟨(OwnE.keep (Own.mono I.ow (by omega)) (Keep.of_set rfl) (fun b hb e => by cases hb; have := hne _ e; omega)).thaw (by decide), .bool _, trivial⟩) ⟨by rw [List.length_set]; exact hle, fun b hb _ => by rw [List.getElem?_set_ne (by omega)]; exact I.ke.at_ b hb (by simp)⟩
  have i3 : (i : Int) < a.ts.length := by omega
  have e0 := at_enc (E := statE) (T := T) (k := .i64) se22 hlt rfl
  have e9 := inc_id hlt (show a.ts.length ≤ 140737488355328 by omega)
  have hsr := (hm.2.2 _ (List.getElem_mem hlt)).rng
  have hsi : a.ts[i] = a.ts[i] := rfl
  generalize hs0 : a.ts[i] = s at *
  rw [statE_cells] at e0
  by_cases ht : c.ten = (i : Int)
  rotate_left
  · have hz : s.addv ((comD c r i).add (sumT i (l.take 0))) = s := by
      unfold comD cmdT; rw [if_neg ht]
      show s.addv (stat0.add stat0) = s
      exact addv_zero s hsr
    clear hsi
    have hsi := hs0
    repeat' (first | simp only [go_sem, Nat.reduceLT, Nat.reduceEqDiff, Nat.reduceAdd, Nat.reduceMul, Nat.reduceSub, Nat.reduceLeDiff, Int.reduceToNat, Int.reduceNeg, Int.reduceLT, Int.reduceLE, Int.reduceEq, reduceCtorEq, Int.natCast_zero, Int.natCast_one, Int.cast_ofNat_Int, Bool.not_not, false_eq_decide, true_eq_decide, hread0, hreadk, read_cons0, read_consk, astore_h0, astore_hk, hget0, hgetk, hset0, hsetk, hlen, hcat, Nat.add_assoc, Nat.add_zero, Nat.zero_add, List.length_append, and_true, true_and, AV.flat, gq0, get_app gq0, read_get gq0, read_app gq0, gq1, get_app gq1, read_get gq1, read_app gq1, gq2, get_app gq2, read_get gq2, read_app gq2, *, -hK, -hm, -hfa, -hw, -I, -hR, -gq3, -gq4, -hsr, -hz, -hsi, -hs0] | with_reducible refine IfB_dec (fun h => ?_) (fun h => ?_) | with_reducible refine Guard_dec (fun h => ?_) (fun h => ?_) | with_reducible refine Guard_ndec (fun h => ?_) (fun h => ?_) | with_reducible refine Guard_not (fun h => ?_) (fun h => ?_) | with_reducible refine IfB_ndec (fun h => ?_) (fun h => ?_) | with_reducible refine IfB_not (fun h => ?_) (fun h => ?_) | with_reducible refine Guard_split (fun h => ?_) (fun h => ?_) | with_reducible refine IfB_split (fun h => ?_) (fun h => ?_))
    have hb : (0 : Int) ≤ 1 ∧ (1 : Int) ≤ 140737488355328 := by omega
    have hbk := hR
    have hA0 := hA
    have o3 := s3
    have o4 := s4
    have o5 := s5
    have o6 := s6
    have o8 := s8
    have o9 := s9
    refine WX_loopS [3, 4, 5, 6, 8, 9, 10, 11] (fun q fr' H' => ∃ j : Nat, q = l.length - j ∧ j ≤ l.length ∧ fr'.get 13 = .int .i64 j ∧ H' = G ++ [⟨(s.addv ((comD c r i).add (sumT i (l.take j)))).cs, 0, .full⟩] ∧ A fr') l.length ⟨0, rfl, by omega, by simp only [go_sem, Nat.reduceLT, Nat.reduceEqDiff, Nat.reduceAdd, Nat.reduceMul, Nat.reduceSub, Nat.reduceLeDiff, Int.reduceToNat, Int.reduceNeg, Int.reduceLT, Int.reduceLE, Int.reduceEq, reduceCtorEq]; rfl, by rw [hz]; rfl, by (repeat (first | exact hs | refine hA _ _ _ (by decide) ?_))⟩ ?_
    clear hg hs hA s3 s4 s5 s6 s8 s9 hz
    rintro q fr2 H2 A2 R2 hA hs hg hR2 ⟨j, rfl, hj, f13, rfl, hAf⟩
    have s3 := hg 3 (by decide)
    have s4 := hg 4 (by decide)
    have s5 := hg 5 (by decide)
    have s6 := hg 6 (by decide)
    have s8 := hg 8 (by decide)
    have s9 := hg 9 (by decide)
    have s10 := hg 10 (by decide)
    have s11 := hg 11 (by decide)
    simp only [Fr.get_put, Fr.get_init, List.getD_cons_zero, List.getD_cons_succ, Nat.reduceEqDiff, if_true, if_false] at s3 s4 s5 s6 s8 s9 s10 s11
    rw [o3] at s3
    rw [o4] at s4
    rw [o5] at s5
    rw [o6] at s6
    rw [o8] at s8
    rw [o9] at s9
    rw [f10] at s10
    clear f10 o3 o4 o5 o6 o8 o9
    refine wx_sound hT _ ?_
    have hSr : (s.addv ((comD c r i).add (sumT i (l.take j)))).rng := addv_rng _ _ hsr (add_pos (comD_pos c r i) (sumT_pos _ _)).1
    by_cases hlj : j < l.length
    rotate_left
    · have i4 : ¬ (j : Int) < l.length := by omega
      rw [show j = l.length by omega, List.take_length]
      clear hR2 hSr
      have hfin : s.addv ((comD c r i).add (sumT i l)) = (moreL a.ts (cntD c r l))[i]'(by rw [moreL_len]; exact hlt) := by rw [moreL_at hlt, ← hsi]; rfl
      generalize s.addv ((comD c r i).add (sumT i l)) = S at *
      have I2 := I.keep (Keep.snoc none G (⟨S.cs, 0, .full⟩ : Blk))
      have hp : (G ++ [(⟨S.cs, 0, .full⟩ : Blk)])[G.length]? = some ⟨S.cs, 0, .full⟩ := get_last _ _
      generalize hG2 : (G ++ [(⟨S.cs, 0, .full⟩ : Blk)] : Heap) = G2 at *
      clear hG2
      have ga0 := I2.g0
      have ga4 := I2.g4
      have hv := I2.ow.one
      unfold Stat.cs at hp
      repeat' (first | simp only [go_sem, Nat.reduceLT, Nat.reduceEqDiff, Nat.reduceAdd, Nat.reduceMul, Nat.reduceSub, Nat.reduceLeDiff, Int.reduceToNat, Int.reduceNeg, Int.reduceLT, Int.reduceLE, Int.reduceEq, reduceCtorEq, Int.natCast_zero, Int.natCast_one, Int.cast_ofNat_Int, Bool.not_not, false_eq_decide, true_eq_decide, hread0, hreadk, read_cons0, read_consk, astore_h0, astore_hk, hget0, hgetk, hset0, hsetk, hlen, hcat, Nat.add_assoc, Nat.add_zero, Nat.zero_add, List.length_append, and_true, true_and, AV.flat, ga0, get_app ga0, read_get ga0, read_app ga0, ga4, get_app ga4, read_get ga4, read_app ga4, hp, get_app hp, read_get hp, read_app hp, hv, one_solid hv, one_cells hv, *, -hK, -hm, -hfa, -I, -I2, -hw, -hfin, -hbk, -hsi] | with_reducible refine IfB_dec (fun h => ?_) (fun h => ?_) | with_reducible refine Guard_dec (fun h => ?_) (fun h => ?_) | with_reducible refine Guard_ndec (fun h => ?_) (fun h => ?_) | with_reducible refine Guard_not (fun h => ?_) (fun h => ?_) | with_reducible refine IfB_ndec (fun h => ?_) (fun h => ?_) | with_reducible refine IfB_not (fun h => ?_) (fun h => ?_) | with_reducible refine Guard_split (fun h => ?_) (fun h => ?_) | with_reducible refine IfB_split (fun h => ?_) (fun h => ?_))
      refine append1_enc (E := statE) (m := H.length + 5) (x := S) I2.ow rfl se22 az47 td47 tk22 rfl rfl (by decide) (by rw [List.length_take, moreL_len]; simp only [statE]; omega) (by have := (List.getElem?_eq_some_iff.1 ga4).1; omega) ?_
      intro v4 H4 o4 k4 hn4
      have I3 := I2.app o4 k4
      have hv4 := o4.one
      have gb4 := k4.get ga4 (fun e => by have := I2.ow.ge e; omega)
      rw [hfin, ← List.take_succ_eq_append_getElem] at I3
      repeat' (first | simp only [go_sem, Nat.reduceLT, Nat.reduceEqDiff, Nat.reduceAdd, Nat.reduceMul, Nat.reduceSub, Nat.reduceLeDiff, Int.reduceToNat, Int.reduceNeg, Int.reduceLT, Int.reduceLE, Int.reduceEq, reduceCtorEq, Int.natCast_zero, Int.natCast_one, Int.cast_ofNat_Int, Bool.not_not, false_eq_decide, true_eq_decide, hread0, hreadk, read_cons0, read_consk, astore_h0, astore_hk, hget0, hgetk, hset0, hsetk, hlen, hcat, Nat.add_assoc, Nat.add_zero, Nat.zero_add, List.length_append, and_true, true_and, AV.flat, gb4, get_app gb4, read_get gb4, read_app gb4, astore_get gb4, astore_app gb4, get_set gb4, get_set_app gb4, read_set gb4, read_set_app gb4, astore_set gb4, astore_set_app gb4, List.set_set, hget0s, hgetks, hread0s, hreadks, List.length_set, hv4, one_solid hv4, one_cells hv4, *, -hK, -hm, -hfa, -I, -I2, -I3, -hw, -hfin, -hbk, -o4, -k4, -hn4, -ga0, -ga4, -hsi, -hp] | with_reducible refine IfB_dec (fun h => ?_) (fun h => ?_) | with_reducible refine Guard_dec (fun h => ?_) (fun h => ?_) | with_reducible refine Guard_ndec (fun h => ?_) (fun h => ?_) | with_reducible refine Guard_not (fun h => ?_) (fun h => ?_) | with_reducible refine IfB_ndec (fun h => ?_) (fun h => ?_) | with_reducible refine IfB_not (fun h => ?_) (fun h => ?_) | with_reducible refine Guard_split (fun h => ?_) (fun h => ?_) | with_reducible refine IfB_split (fun h => ?_) (fun h => ?_))
      exact hbk _ _ (by repeat (first | exact hAf | refine hA0 _ _ _ (by decide) ?_)) (a.ts.length - (i + 1)) (by omega) ⟨i + 1, _, rfl, by omega, by simp only [go_sem, Nat.reduceLT, Nat.reduceEqDiff, Nat.reduceAdd, Nat.reduceMul, Nat.reduceSub, Nat.reduceLeDiff, Int.reduceToNat, Int.reduceNeg, Int.reduceLT, Int.reduceLE, Int.reduceEq, reduceCtorEq], I3⟩
    have i4 : (j : Int) < l.length := by omega
    have e1 := at_enc (E := chgE) (T := T) (k := .i64) se33 hlj rfl
    have e3 := inc_id hlj hl
    obtain ⟨hx0, hx4⟩ := hfa l[j] (List.getElem_mem hlj)
    have hxw := hw l[j] (List.getElem_mem hlj)
    have ga0 := I.g0
    have hst : ∀ t, sumT t (l.take (j + 1)) = (sumT t (l.take j)).add (chgT t l[j]) := fun t => by rw [List.take_succ_eq_append_getElem hlj, sumT_snoc]
    have back : ∀ fr3, A2 fr3 → fr3.get 13 = .int .i64 ((j + 1 : Nat) : Int) → A fr3 → R2 fr3 (G ++ [⟨(s.addv ((comD c r i).add (sumT i (l.take (j + 1))))).cs, 0, .full⟩]) := fun fr3 ha g1 h3 => hR2 fr3 _ ha (l.length - (j + 1)) (by omega) ⟨j + 1, rfl, by omega, g1, rfl, h3⟩
    generalize l[j] = x at *
    obtain ⟨kd, tn, ik, iv, fl, du, un, ky, wy, to, pr⟩ := x
    simp only at hx0 hx4 hxw
    rw [chgE_cells] at e1
    simp only at e1
    by_cases ht2 : tn = (i : Int)
    rotate_left
    · rw [show s.addv ((comD c r i).add (sumT i (l.take (j + 1)))) = s.addv ((comD c r i).add (sumT i (l.take j))) by rw [hst, show chgT i ⟨kd, tn, ik, iv, fl, du, un, ky, wy, to, pr⟩ = stat0 by unfold chgT; rw [if_neg (by show ¬ tn = _; exact ht2)]]; simp [Stat.add, stat0]] at back
      clear hst
      repeat' (first | simp only [go_sem, Nat.reduceLT, Nat.reduceEqDiff, Nat.reduceAdd, Nat.reduceMul, Nat.reduceSub, Nat.reduceLeDiff, Int.reduceToNat, Int.reduceNeg, Int.reduceLT, Int.reduceLE, Int.reduceEq, reduceCtorEq, Int.natCast_zero, Int.natCast_one, Int.cast_ofNat_Int, Bool.not_not, false_eq_decide, true_eq_decide, hread0, hreadk, read_cons0, read_consk, astore_h0, astore_hk, hget0, hgetk, hset0, hsetk, hlen, hcat, Nat.add_assoc, Nat.add_zero, Nat.zero_add, List.length_append, and_true, true_and, AV.flat, ga0, get_app ga0, read_get ga0, read_app ga0, *, -hK, -hm, -hfa, -I, -back, -hSr, -hw, -hbk, -hR2] | with_reducible refine IfB_dec (fun h => ?_) (fun h => ?_) | with_reducible refine Guard_dec (fun h => ?_) (fun h => ?_) | with_reducible refine Guard_ndec (fun h => ?_) (fun h => ?_) | with_reducible refine Guard_not (fun h => ?_) (fun h => ?_) | with_reducible refine IfB_ndec (fun h => ?_) (fun h => ?_) | with_reducible refine IfB_not (fun h => ?_) (fun h => ?_) | with_reducible refine Guard_split (fun h => ?_) (fun h => ?_) | with_reducible refine IfB_split (fun h => ?_) (fun h => ?_))
      exact back _ (by (repeat (first | exact hs | refine hA _ _ _ (by decide) ?_))) (by simp only [go_sem, Nat.reduceLT, Nat.reduceEqDiff, Nat.reduceAdd, Nat.reduceMul, Nat.reduceSub, Nat.reduceLeDiff, Int.reduceToNat, Int.reduceNeg, Int.reduceLT, Int.reduceLE, Int.reduceEq, reduceCtorEq]) (by repeat (first | exact hAf | refine hA0 _ _ _ (by decide) ?_))
    subst ht2
    have hDk : ∀ {d : Stat}, chgD ⟨kd, (i : Int), ik, iv, fl, du, un, ky, wy, to, pr⟩ = d → s.addv ((comD c r i).add (sumT i (l.take (j + 1)))) = (s.addv ((comD c r i).add (sumT i (l.take j)))).addv d := fun {d} h => by
      rw [hst, show chgT i ⟨kd, (i : Int), ik, iv, fl, du, un, ky, wy, to, pr⟩ = d by unfold chgT; rw [if_pos rfl, h], addv_addv _ _ _ (h ▸ (chgD_pos _).1)]
      congr 1
      simp only [Stat.add, Stat.mk.injEq]; omega
    clear hst
    generalize hS : s.addv ((comD c r i).add (sumT i (l.take j))) = S at *
    by_cases k1 : kd = 1
    · subst k1
      rw [hDk (d := unitS 2 1) rfl, addv2 S hSr] at back
      clear hDk
      obtain ⟨S1, S2, S3, S4, S5, S6⟩ := S
      unfold Stat.cs at back ⊢
      simp only at back ⊢
      have up1 := fun J => refUp_spec S3 1 hSr.2.2.1 hb J
      clear hSr
      repeat' (first | simp only [go_sem, Nat.reduceLT, Nat.reduceEqDiff, Nat.reduceAdd, Nat.reduceMul, Nat.reduceSub, Nat.reduceLeDiff, Int.reduceToNat, Int.reduceNeg, Int.reduceLT, Int.reduceLE, Int.reduceEq, reduceCtorEq, Int.natCast_zero, Int.natCast_one, Int.cast_ofNat_Int, Bool.not_not, false_eq_decide, true_eq_decide, hread0, hreadk, read_cons0, read_consk, astore_h0, astore_hk, hget0, hgetk, hset0, hsetk, hlen, hcat, Nat.add_assoc, Nat.add_zero, Nat.zero_add, List.length_append, and_true, true_and, AV.flat, ga0, get_app ga0, read_get ga0, read_app ga0, *, -hK, -hm, -hfa, -I, -back, -up1, -hw, -hS, -hbk, -hR2] | refine WC.call (up1 _) ?_ | with_reducible refine IfB_dec (fun h => ?_) (fun h => ?_) | with_reducible refine Guard_dec (fun h => ?_) (fun h => ?_) | with_reducible refine Guard_ndec (fun h => ?_) (fun h => ?_) | with_reducible refine Guard_not (fun h => ?_) (fun h => ?_) | with_reducible refine IfB_ndec (fun h => ?_) (fun h => ?_) | with_reducible refine IfB_not (fun h => ?_) (fun h => ?_) | with_reducible refine Guard_split (fun h => ?_) (fun h => ?_) | with_reducible refine IfB_split (fun h => ?_) (fun h => ?_))
      exact back _ (by (repeat (first | exact hs | refine hA _ _ _ (by decide) ?_))) (by simp only [go_sem, Nat.reduceLT, Nat.reduceEqDiff, Nat.reduceAdd, Nat.reduceMul, Nat.reduceSub, Nat.reduceLeDiff, Int.reduceToNat, Int.reduceNeg, Int.reduceLT, Int.reduceLE, Int.reduceEq, reduceCtorEq]) (by repeat (first | exact hAf | refine hA0 _ _ _ (by decide) ?_))
    by_cases k2 : kd = 2
    · subst k2
      by_cases k3 : wy = 1
      · subst k3
        rw [hDk (d := unitS 3 1) rfl, addv3 S hSr] at back
        clear hDk
        obtain ⟨S1, S2, S3, S4, S5, S6⟩ := S
        unfold Stat.cs at back ⊢
        simp only at back ⊢
        have up1 := fun J => refUp_spec S4 1 hSr.2.2.2.1 hb J
        clear hSr
        repeat' (first | simp only [go_sem, Nat.reduceLT, Nat.reduceEqDiff, Nat.reduceAdd, Nat.reduceMul, Nat.reduceSub, Nat.reduceLeDiff, Int.reduceToNat, Int.reduceNeg, Int.reduceLT, Int.reduceLE, Int.reduceEq, reduceCtorEq, Int.natCast_zero, Int.natCast_one, Int.cast_ofNat_Int, Bool.not_not, false_eq_decide, true_eq_decide, hread0, hreadk, read_cons0, read_consk, astore_h0, astore_hk, hget0, hgetk, hset0, hsetk, hlen, hcat, Nat.add_assoc, Nat.add_zero, Nat.zero_add, List.length_append, and_true, true_and, AV.flat, ga0, get_app ga0, read_get ga0, read_app ga0, *, -hK, -hm, -hfa, -I, -back, -up1, -hw, -hS, -hbk, -hR2] | refine WC.call (up1 _) ?_ | with_reducible refine IfB_dec (fun h => ?_) (fun h => ?_) | with_reducible refine Guard_dec (fun h => ?_) (fun h => ?_) | with_reducible refine Guard_ndec (fun h => ?_) (fun h => ?_) | with_reducible refine Guard_not (fun h => ?_) (fun h => ?_) | with_reducible refine IfB_ndec (fun h => ?_) (fun h => ?_) | with_reducible refine IfB_not (fun h => ?_) (fun h => ?_) | with_reducible refine Guard_split (fun h => ?_) (fun h => ?_) | with_reducible refine IfB_split (fun h => ?_) (fun h => ?_))
        exact back _ (by (repeat (first | exact hs | refine hA _ _ _ (by decide) ?_))) (by simp only [go_sem, Nat.reduceLT, Nat.reduceEqDiff, Nat.reduceAdd, Nat.reduceMul, Nat.reduceSub, Nat.reduceLeDiff, Int.reduceToNat, Int.reduceNeg, Int.reduceLT, Int.reduceLE, Int.reduceEq, reduceCtorEq]) (by repeat (first | exact hAf | refine hA0 _ _ _ (by decide) ?_))
      · obtain rfl := (hxw rfl).resolve_left k3
        rw [hDk (d := unitS 4 1) rfl, addv4 S hSr] at back
        clear hDk
        obtain ⟨S1, S2, S3, S4, S5, S6⟩ := S
        unfold Stat.cs at back ⊢
        simp only at back ⊢
        have up1 := fun J => refUp_spec S5 1 hSr.2.2.2.2.1 hb J
        clear hSr
        repeat' (first | simp only [go_sem, Nat.reduceLT, Nat.reduceEqDiff, Nat.reduceAdd, Nat.reduceMul, Nat.reduceSub, Nat.reduceLeDiff, Int.reduceToNat, Int.reduceNeg, Int.reduceLT, Int.reduceLE, Int.reduceEq, reduceCtorEq, Int.natCast_zero, Int.natCast_one, Int.cast_ofNat_Int, Bool.not_not, false_eq_decide, true_eq_decide, hread0, hreadk, read_cons0, read_consk, astore_h0, astore_hk, hget0, hgetk, hset0, hsetk, hlen, hcat, Nat.add_assoc, Nat.add_zero, Nat.zero_add, List.length_append, and_true, true_and, AV.flat, ga0, get_app ga0, read_get ga0, read_app ga0, *, -hK, -hm, -hfa, -I, -back, -up1, -hw, -hS, -hbk, -hR2] | refine WC.call (up1 _) ?_ | with_reducible refine IfB_dec (fun h => ?_) (fun h => ?_) | with_reducible refine Guard_dec (fun h => ?_) (fun h => ?_) | with_reducible refine Guard_ndec (fun h => ?_) (fun h => ?_) | with_reducible refine Guard_not (fun h => ?_) (fun h => ?_) | with_reducible refine IfB_ndec (fun h => ?_) (fun h => ?_) | with_reducible refine IfB_not (fun h => ?_) (fun h => ?_) | with_reducible refine Guard_split (fun h => ?_) (fun h => ?_) | with_reducible refine IfB_split (fun h => ?_) (fun h => ?_))
        exact back _ (by (repeat (first | exact hs | refine hA _ _ _ (by decide) ?_))) (by simp only [go_sem, Nat.reduceLT, Nat.reduceEqDiff, Nat.reduceAdd, Nat.reduceMul, Nat.reduceSub, Nat.reduceLeDiff, Int.reduceToNat, Int.reduceNeg, Int.reduceLT, Int.reduceLE, Int.reduceEq, reduceCtorEq]) (by repeat (first | exact hAf | refine hA0 _ _ _ (by decide) ?_))
    rw [hDk (d := stat0) (by unfold chgD; rw [if_neg k1, if_neg (fun h => k2 h.1), if_neg k2]), addv_zero S hSr] at back
    clear hDk
    repeat' (first | simp only [go_sem, Nat.reduceLT, Nat.reduceEqDiff, Nat.reduceAdd, Nat.reduceMul, Nat.reduceSub, Nat.reduceLeDiff, Int.reduceToNat, Int.reduceNeg, Int.reduceLT, Int.reduceLE, Int.reduceEq, reduceCtorEq, Int.natCast_zero, Int.natCast_one, Int.cast_ofNat_Int, Bool.not_not, false_eq_decide, true_eq_decide, hread0, hreadk, read_cons0, read_consk, astore_h0, astore_hk, hget0, hgetk, hset0, hsetk, hlen, hcat, Nat.add_assoc, Nat.add_zero, Nat.zero_add, List.length_append, and_true, true_and, AV.flat, ga0, get_app ga0, read_get ga0, read_app ga0, *, -hK, -hm, -hfa, -I, -back, -hSr, -hw, -hbk, -hR2, -hS] | with_reducible refine IfB_dec (fun h => ?_) (fun h => ?_) | with_reducible refine Guard_dec (fun h => ?_) (fun h => ?_) | with_reducible refine Guard_ndec (fun h => ?_) (fun h => ?_) | with_reducible refine Guard_not (fun h => ?_) (fun h => ?_) | with_reducible refine IfB_ndec (fun h => ?_) (fun h => ?_) | with_reducible refine IfB_not (fun h => ?_) (fun h => ?_) | with_reducible refine Guard_split (fun h => ?_) (fun h => ?_) | with_reducible refine IfB_split (fun h => ?_) (fun h => ?_))
    exact back _ (by (repeat (first | exact hs | refine hA _ _ _ (by decide) ?_))) (by simp only [go_sem, Nat.reduceLT, Nat.reduceEqDiff, Nat.reduceAdd, Nat.reduceMul, Nat.reduceSub, Nat.reduceLeDiff, Int.reduceToNat, Int.reduceNeg, Int.reduceLT, Int.reduceLE, Int.reduceEq, reduceCtorEq]) (by repeat (first | exact hAf | refine hA0 _ _ _ (by decide) ?_))
  have upC := fun J => refUp_spec s.ref 1 hsr.2.2.2.2.2 ⟨by omega, by omega⟩ J
  have upA := fun J => refUp_spec s.gets c.keys.length hsr.1 ⟨by omega, by omega⟩ J
  by_cases kk1 : c.kind = 1
  · by_cases hh : (r.its.length : Int) > c.keys.length
    · have upB := fun J => refUp_spec s.hits c.keys.length hsr.2.1 ⟨by omega, by omega⟩ J
      have hmn : min r.its.length c.keys.length = c.keys.length := by omega
      have cz : ∀ {D : Stat}, cmdD c.kind c.keys.length r.kind r.its.length = D → s.addv ((comD c r i).add (sumT i (l.take 0))) = s.addv D := fun {D} h => by
        unfold comD cmdT; rw [if_pos ht, h]
        show s.addv (D.add stat0) = s.addv D
        congr 1; simp [Stat.add, stat0]
      by_cases hr : r.kind = 7 ∨ r.kind = 4 ∨ r.kind = 5
      · have hz := (cz (D := ((unitS 0 (c.keys.length : Int)).add (unitS 1 (c.keys.length : Int))).add (unitS 5 1)) (by unfold cmdD; rw [if_pos kk1, if_pos kk1, if_pos hr]; simp [Stat.add, unitS, Stat.upd, stat0]; omega)).trans (addv015 s hsr _ _ _)
        clear cz
        clear hsi
        have hsi := hs0
        have hr3 : r.kind = 7 ∨ (¬ r.kind = 7 ∧ r.kind = 4) ∨ (¬ r.kind = 7 ∧ ¬ r.kind = 4 ∧ r.kind = 5) := by omega
        clear hr
        rcases hr3 with r7 | ⟨n7, r4⟩ | ⟨n7, n4, r5⟩
        all_goals
          repeat' (first | simp only [go_sem, Nat.reduceLT, Nat.reduceEqDiff, Nat.reduceAdd, Nat.reduceMul, Nat.reduceSub, Nat.reduceLeDiff, Int.reduceToNat, Int.reduceNeg, Int.reduceLT, Int.reduceLE, Int.reduceEq, reduceCtorEq, Int.natCast_zero, Int.natCast_one, Int.cast_ofNat_Int, Bool.not_not, false_eq_decide, true_eq_decide, hread0, hreadk, read_cons0, read_consk, astore_h0, astore_hk, hget0, hgetk, hset0, hsetk, hlen, hcat, Nat.add_assoc, Nat.add_zero, Nat.zero_add, List.length_append, and_true, true_and, AV.flat, gq0, get_app gq0, read_get gq0, read_app gq0, gq1, get_app gq1, read_get gq1, read_app gq1, gq2, get_app gq2, read_get gq2, read_app gq2, *, -hK, -hm, -hfa, -hw, -I, -hR, -gq3, -gq4, -hsr, -hz, -hsi, -hs0, -upA, -upB, -upC] | refine WC.call (upA _) ?_ | refine WC.call (upB _) ?_ | refine WC.call (upC _) ?_ | with_reducible refine IfB_dec (fun h => ?_) (fun h => ?_) | with_reducible refine Guard_dec (fun h => ?_) (fun h => ?_) | with_reducible refine Guard_ndec (fun h => ?_) (fun h => ?_) | with_reducible refine Guard_not (fun h => ?_) (fun h => ?_) | with_reducible refine IfB_ndec (fun h => ?_) (fun h => ?_) | with_reducible refine IfB_not (fun h => ?_) (fun h => ?_) | with_reducible refine Guard_split (fun h => ?_) (fun h => ?_) | with_reducible refine IfB_split (fun h => ?_) (fun h => ?_))
          clear upA upB upC
          have hb : (0 : Int) ≤ 1 ∧ (1 : Int) ≤ 140737488355328 := by omega
          have hbk := hR
          have hA0 := hA
          have o3 := s3
          have o4 := s4
          have o5 := s5
          have o6 := s6
          have o8 := s8
          have o9 := s9
          refine WX_loopS [3, 4, 5, 6, 8, 9, 10, 11] (fun q fr' H' => ∃ j : Nat, q = l.length - j ∧ j ≤ l.length ∧ fr'.get 13 = .int .i64 j ∧ H' = G ++ [⟨(s.addv ((comD c r i).add (sumT i (l.take j)))).cs, 0, .full⟩] ∧ A fr') l.length ⟨0, rfl, by omega, by simp only [go_sem, Nat.reduceLT, Nat.reduceEqDiff, Nat.reduceAdd, Nat.reduceMul, Nat.reduceSub, Nat.reduceLeDiff, Int.reduceToNat, Int.reduceNeg, Int.reduceLT, Int.reduceLE, Int.reduceEq, reduceCtorEq]; rfl, by rw [hz]; rfl, by (repeat (first | exact hs | refine hA _ _ _ (by decide) ?_))⟩ ?_
          clear hg hs hA s3 s4 s5 s6 s8 s9 hz
          rintro q fr2 H2 A2 R2 hA hs hg hR2 ⟨j, rfl, hj, f13, rfl, hAf⟩
          have s3 := hg 3 (by decide)
          have s4 := hg 4 (by decide)
          have s5 := hg 5 (by decide)
          have s6 := hg 6 (by decide)
          have s8 := hg 8 (by decide)
          have s9 := hg 9 (by decide)
          have s10 := hg 10 (by decide)
          have s11 := hg 11 (by decide)
          simp only [Fr.get_put, Fr.get_init, List.getD_cons_zero, List.getD_cons_succ, Nat.reduceEqDiff, if_true, if_false] at s3 s4 s5 s6 s8 s9 s10 s11
          rw [o3] at s3
          rw [o4] at s4
          rw [o5] at s5
          rw [o6] at s6
          rw [o8] at s8
          rw [o9] at s9
          rw [f10] at s10
          clear f10 o3 o4 o5 o6 o8 o9
          refine wx_sound hT _ ?_
          have hSr : (s.addv ((comD c r i).add (sumT i (l.take j)))).rng := addv_rng _ _ hsr (add_pos (comD_pos c r i) (sumT_pos _ _)).1
          by_cases hlj : j < l.length
          rotate_left
          · have i4 : ¬ (j : Int) < l.length := by omega
            rw [show j = l.length by omega, List.take_length]
            clear hR2 hSr
            have hfin : s.addv ((comD c r i).add (sumT i l)) = (moreL a.ts (cntD c r l))[i]'(by rw [moreL_len]; exact hlt) := by rw [moreL_at hlt, ← hsi]; rfl
            generalize s.addv ((comD c r i).add (sumT i l)) = S at *
            have I2 := I.keep (Keep.snoc none G (⟨S.cs, 0, .full⟩ : Blk))
            have hp : (G ++ [(⟨S.cs, 0, .full⟩ : Blk)])[G.length]? = some ⟨S.cs, 0, .full⟩ := get_last _ _
            generalize hG2 : (G ++ [(⟨S.cs, 0, .full⟩ : Blk)] : Heap) = G2 at *
            clear hG2
            have ga0 := I2.g0
            have ga4 := I2.g4
            have hv := I2.ow.one
            unfold Stat.cs at hp
            repeat' (first | simp only [go_sem, Nat.reduceLT, Nat.reduceEqDiff, Nat.reduceAdd, Nat.reduceMul, Nat.reduceSub, Nat.reduceLeDiff, Int.reduceToNat, Int.reduceNeg, Int.reduceLT, Int.reduceLE, Int.reduceEq, reduceCtorEq, Int.natCast_zero, Int.natCast_one, Int.cast_ofNat_Int, Bool.not_not, false_eq_decide, true_eq_decide, hread0, hreadk, read_cons0, read_consk, astore_h0, astore_hk, hget0, hgetk, hset0, hsetk, hlen, hcat, Nat.add_assoc, Nat.add_zero, Nat.zero_add, List.length_append, and_true, true_and, AV.flat, ga0, get_app ga0, read_get ga0, read_app ga0, ga4, get_app ga4, read_get ga4, read_app ga4, hp, get_app hp, read_get hp, read_app hp, hv, one_solid hv, one_cells hv, *, -hK, -hm, -hfa, -I, -I2, -hw, -hfin, -hbk, -hsi] | with_reducible refine IfB_dec (fun h => ?_) (fun h => ?_) | with_reducible refine Guard_dec (fun h => ?_) (fun h => ?_) | with_reducible refine Guard_ndec (fun h => ?_) (fun h => ?_) | with_reducible refine Guard_not (fun h => ?_) (fun h => ?_) | with_reducible refine IfB_ndec (fun h => ?_) (fun h => ?_) | with_reducible refine IfB_not (fun h => ?_) (fun h => ?_) | with_reducible refine Guard_split (fun h => ?_) (fun h => ?_) | with_reducible refine IfB_split (fun h => ?_) (fun h => ?_))
            refine append1_enc (E := statE) (m := H.length + 5) (x := S) I2.ow rfl se22 az47 td47 tk22 rfl rfl (by decide) (by rw [List.length_take, moreL_len]; simp only [statE]; omega) (by have := (List.getElem?_eq_some_iff.1 ga4).1; omega) ?_
            intro v4 H4 o4 k4 hn4
            have I3 := I2.app o4 k4
            have hv4 := o4.one
            have gb4 := k4.get ga4 (fun e => by have := I2.ow.ge e; omega)
            rw [hfin, ← List.take_succ_eq_append_getElem] at I3
            repeat' (first | simp only [go_sem, Nat.reduceLT, Nat.reduceEqDiff, Nat.reduceAdd, Nat.reduceMul, Nat.reduceSub, Nat.reduceLeDiff, Int.reduceToNat, Int.reduceNeg, Int.reduceLT, Int.reduceLE, Int.reduceEq, reduceCtorEq, Int.natCast_zero, Int.natCast_one, Int.cast_ofNat_Int, Bool.not_not, false_eq_decide, true_eq_decide, hread0, hreadk, read_cons0, read_consk, astore_h0, astore_hk, hget0, hgetk, hset0, hsetk, hlen, hcat, Nat.add_assoc, Nat.add_zero, Nat.zero_add, List.length_append, and_true, true_and, AV.flat, gb4, get_app gb4, read_get gb4, read_app gb4, astore_get gb4, astore_app gb4, get_set gb4, get_set_app gb4, read_set gb4, read_set_app gb4, astore_set gb4, astore_set_app gb4, List.set_set, hget0s, hgetks, hread0s, hreadks, List.length_set, hv4, one_solid hv4, one_cells hv4, *, -hK, -hm, -hfa, -I, -I2, -I3, -hw, -hfin, -hbk, -o4, -k4, -hn4, -ga0, -ga4, -hsi, -hp] | with_reducible refine IfB_dec (fun h => ?_) (fun h => ?_) | with_reducible refine Guard_dec (fun h => ?_) (fun h => ?_) | with_reducible refine Guard_ndec (fun h => ?_) (fun h => ?_) | with_reducible refine Guard_not (fun h => ?_) (fun h => ?_) | with_reducible refine IfB_ndec (fun h => ?_) (fun h => ?_) | with_reducible refine IfB_not (fun h => ?_) (fun h => ?_) | with_reducible refine Guard_split (fun h => ?_) (fun h => ?_) | with_reducible refine IfB_split (fun h => ?_) (fun h => ?_))
            exact hbk _ _ (by repeat (first | exact hAf | refine hA0 _ _ _ (by decide) ?_)) (a.ts.length - (i + 1)) (by omega) ⟨i + 1, _, rfl, by omega, by simp only [go_sem, Nat.reduceLT, Nat.reduceEqDiff, Nat.reduceAdd, Nat.reduceMul, Nat.reduceSub, Nat.reduceLeDiff, Int.reduceToNat, Int.reduceNeg, Int.reduceLT, Int.reduceLE, Int.reduceEq, reduceCtorEq], I3⟩
          have i4 : (j : Int) < l.length := by omega
          have e1 := at_enc (E := chgE) (T := T) (k := .i64) se33 hlj rfl
          have e3 := inc_id hlj hl
          obtain ⟨hx0, hx4⟩ := hfa l[j] (List.getElem_mem hlj)
          have hxw := hw l[j] (List.getElem_mem hlj)
          have ga0 := I.g0
          have hst : ∀ t, sumT t (l.take (j + 1)) = (sumT t (l.take j)).add (chgT t l[j]) := fun t => by rw [List.take_succ_eq_append_getElem hlj, sumT_snoc]
          have back : ∀ fr3, A2 fr3 → fr3.get 13 = .int .i64 ((j + 1 : Nat) : Int) → A fr3 → R2 fr3 (G ++ [⟨(s.addv ((comD c r i).add (sumT i (l.take (j + 1))))).cs, 0, .full⟩]) := fun fr3 ha g1 h3 => hR2 fr3 _ ha (l.length - (j + 1)) (by omega) ⟨j + 1, rfl, by omega, g1, rfl, h3⟩
          generalize l[j] = x at *
          obtain ⟨kd, tn, ik, iv, fl, du, un, ky, wy, to, pr⟩ := x
          simp only at hx0 hx4 hxw
          rw [chgE_cells] at e1
          simp only at e1
          by_cases ht2 : tn = (i : Int)
          rotate_left
          · rw [show s.addv ((comD c r i).add (sumT i (l.take (j + 1)))) = s.addv ((comD c r i).add (sumT i (l.take j))) by rw [hst, show chgT i ⟨kd, tn, ik, iv, fl, du, un, ky, wy, to, pr⟩ = stat0 by unfold chgT; rw [if_neg (by show ¬ tn = _; exact ht2)]]; simp [Stat.add, stat0]] at back
            clear hst
            repeat' (first | simp only [go_sem, Nat.reduceLT, Nat.reduceEqDiff, Nat.reduceAdd, Nat.reduceMul, Nat.reduceSub, Nat.reduceLeDiff, Int.reduceToNat, Int.reduceNeg, Int.reduceLT, Int.reduceLE, Int.reduceEq, reduceCtorEq, Int.natCast_zero, Int.natCast_one, Int.cast_ofNat_Int, Bool.not_not, false_eq_decide, true_eq_decide, hread0, hreadk, read_cons0, read_consk, astore_h0, astore_hk, hget0, hgetk, hset0, hsetk, hlen, hcat, Nat.add_assoc, Nat.add_zero, Nat.zero_add, List.length_append, and_true, true_and, AV.flat, ga0, get_app ga0, read_get ga0, read_app ga0, *, -hK, -hm, -hfa, -I, -back, -hSr, -hw, -hbk, -hR2] | with_reducible refine IfB_dec (fun h => ?_) (fun h => ?_) | with_reducible refine Guard_dec (fun h => ?_) (fun h => ?_) | with_reducible refine Guard_ndec (fun h => ?_) (fun h => ?_) | with_reducible refine Guard_not (fun h => ?_) (fun h => ?_) | with_reducible refine IfB_ndec (fun h => ?_) (fun h => ?_) | with_reducible refine IfB_not (fun h => ?_) (fun h => ?_) | with_reducible refine Guard_split (fun h => ?_) (fun h => ?_) | with_reducible refine IfB_split (fun h => ?_) (fun h => ?_))
            exact back _ (by (repeat (first | exact hs | refine hA _ _ _ (by decide) ?_))) (by simp only [go_sem, Nat.reduceLT, Nat.reduceEqDiff, Nat.reduceAdd, Nat.reduceMul, Nat.reduceSub, Nat.reduceLeDiff, Int.reduceToNat, Int.reduceNeg, Int.reduceLT, Int.reduceLE, Int.reduceEq, reduceCtorEq]) (by repeat (first | exact hAf | refine hA0 _ _ _ (by decide) ?_))
          subst ht2
          have hDk : ∀ {d : Stat}, chgD ⟨kd, (i : Int), ik, iv, fl, du, un, ky, wy, to, pr⟩ = d → s.addv ((comD c r i).add (sumT i (l.take (j + 1)))) = (s.addv ((comD c r i).add (sumT i (l.take j)))).addv d := fun {d} h => by
            rw [hst, show chgT i ⟨kd, (i : Int), ik, iv, fl, du, un, ky, wy, to, pr⟩ = d by unfold chgT; rw [if_pos rfl, h], addv_addv _ _ _ (h ▸ (chgD_pos _).1)]
            congr 1
            simp only [Stat.add, Stat.mk.injEq]; omega
          clear hst
          generalize hS : s.addv ((comD c r i).add (sumT i (l.take j))) = S at *
          by_cases k1 : kd = 1
          · subst k1
            rw [hDk (d := unitS 2 1) rfl, addv2 S hSr] at back
            clear hDk
            obtain ⟨S1, S2, S3, S4, S5, S6⟩ := S
            unfold Stat.cs at back ⊢
            simp only at back ⊢
            have up1 := fun J => refUp_spec S3 1 hSr.2.2.1 hb J
            clear hSr
            repeat' (first | simp only [go_sem, Nat.reduceLT, Nat.reduceEqDiff, Nat.reduceAdd, Nat.reduceMul, Nat.reduceSub, Nat.reduceLeDiff, Int.reduceToNat, Int.reduceNeg, Int.reduceLT, Int.reduceLE, Int.reduceEq, reduceCtorEq, Int.natCast_zero, Int.natCast_one, Int.cast_ofNat_Int, Bool.not_not, false_eq_decide, true_eq_decide, hread0, hreadk, read_cons0, read_consk, astore_h0, astore_hk, hget0, hgetk, hset0, hsetk, hlen, hcat, Nat.add_assoc, Nat.add_zero, Nat.zero_add, List.length_append, and_true, true_and, AV.flat, ga0, get_app ga0, read_get ga0, read_app ga0, *, -hK, -hm, -hfa, -I, -back, -up1, -hw, -hS, -hbk, -hR2] | refine WC.call (up1 _) ?_ | with_reducible refine IfB_dec (fun h => ?_) (fun h => ?_) | with_reducible refine Guard_dec (fun h => ?_) (fun h => ?_) | with_reducible refine Guard_ndec (fun h => ?_) (fun h => ?_) | with_reducible refine Guard_not (fun h => ?_) (fun h => ?_) | with_reducible refine IfB_ndec (fun h => ?_) (fun h => ?_) | with_reducible refine IfB_not (fun h => ?_) (fun h => ?_) | with_reducible refine Guard_split (fun h => ?_) (fun h => ?_) | with_reducible refine IfB_split (fun h => ?_) (fun h => ?_))
            exact back _ (by (repeat (first | exact hs | refine hA _ _ _ (by decide) ?_))) (by simp only [go_sem, Nat.reduceLT, Nat.reduceEqDiff, Nat.reduceAdd, Nat.reduceMul, Nat.reduceSub, Nat.reduceLeDiff, Int.reduceToNat, Int.reduceNeg, Int.reduceLT, Int.reduceLE, Int.reduceEq, reduceCtorEq]) (by repeat (first | exact hAf | refine hA0 _ _ _ (by decide) ?_))
          by_cases k2 : kd = 2
          · subst k2
            by_cases k3 : wy = 1
            · subst k3
              rw [hDk (d := unitS 3 1) rfl, addv3 S hSr] at back
              clear hDk
              obtain ⟨S1, S2, S3, S4, S5, S6⟩ := S
              unfold Stat.cs at back ⊢
              simp only at back ⊢
              have up1 := fun J => refUp_spec S4 1 hSr.2.2.2.1 hb J
              clear hSr
              repeat' (first | simp only [go_sem, Nat.reduceLT, Nat.reduceEqDiff, Nat.reduceAdd, Nat.reduceMul, Nat.reduceSub, Nat.reduceLeDiff, Int.reduceToNat, Int.reduceNeg, Int.reduceLT, Int.reduceLE, Int.reduceEq, reduceCtorEq, Int.natCast_zero, Int.natCast_one, Int.cast_ofNat_Int, Bool.not_not, false_eq_decide, true_eq_decide, hread0, hreadk, read_cons0, read_consk, astore_h0, astore_hk, hget0, hgetk, hset0, hsetk, hlen, hcat, Nat.add_assoc, Nat.add_zero, Nat.zero_add, List.length_append, and_true, true_and, AV.flat, ga0, get_app ga0, read_get ga0, read_app ga0, *, -hK, -hm, -hfa, -I, -back, -up1, -hw, -hS, -hbk, -hR2] | refine WC.call (up1 _) ?_ | with_reducible refine IfB_dec (fun h => ?_) (fun h => ?_) | with_reducible refine Guard_dec (fun h => ?_) (fun h => ?_) | with_reducible refine Guard_ndec (fun h => ?_) (fun h => ?_) | with_reducible refine Guard_not (fun h => ?_) (fun h => ?_) | with_reducible refine IfB_ndec (fun h => ?_) (fun h => ?_) | with_reducible refine IfB_not (fun h => ?_) (fun h => ?_) | with_reducible refine Guard_split (fun h => ?_) (fun h => ?_) | with_reducible refine IfB_split (fun h => ?_) (fun h => ?_))
              exact back _ (by (repeat (first | exact hs | refine hA _ _ _ (by decide) ?_))) (by simp only [go_sem, Nat.reduceLT, Nat.reduceEqDiff, Nat.reduceAdd, Nat.reduceMul, Nat.reduceSub, Nat.reduceLeDiff, Int.reduceToNat, Int.reduceNeg, Int.reduceLT, Int.reduceLE, Int.reduceEq, reduceCtorEq]) (by repeat (first | exact hAf | refine hA0 _ _ _ (by decide) ?_))
            · obtain rfl := (hxw rfl).resolve_left k3
              rw [hDk (d := unitS 4 1) rfl, addv4 S hSr] at back
              clear hDk
              obtain ⟨S1, S2, S3, S4, S5, S6⟩ := S
              unfold Stat.cs at back ⊢
              simp only at back ⊢
              have up1 := fun J => refUp_spec S5 1 hSr.2.2.2.2.1 hb J
              clear hSr
              repeat' (first | simp only [go_sem, Nat.reduceLT, Nat.reduceEqDiff, Nat.reduceAdd, Nat.reduceMul, Nat.reduceSub, Nat.reduceLeDiff, Int.reduceToNat, Int.reduceNeg, Int.reduceLT, Int.reduceLE, Int.reduceEq, reduceCtorEq, Int.natCast_zero, Int.natCast_one, Int.cast_ofNat_Int, Bool.not_not, false_eq_decide, true_eq_decide, hread0, hreadk, read_cons0, read_consk, astore_h0, astore_hk, hget0, hgetk, hset0, hsetk, hlen, hcat, Nat.add_assoc, Nat.add_zero, Nat.zero_add, List.length_append, and_true, true_and, AV.flat, ga0, get_app ga0, read_get ga0, read_app ga0, *, -hK, -hm, -hfa, -I, -back, -up1, -hw, -hS, -hbk, -hR2] | refine WC.call (up1 _) ?_ | with_reducible refine IfB_dec (fun h => ?_) (fun h => ?_) | with_reducible refine Guard_dec (fun h => ?_) (fun h => ?_) | with_reducible refine Guard_ndec (fun h => ?_) (fun h => ?_) | with_reducible refine Guard_not (fun h => ?_) (fun h => ?_) | with_reducible refine IfB_ndec (fun h => ?_) (fun h => ?_) | with_reducible refine IfB_not (fun h => ?_) (fun h => ?_) | with_reducible refine Guard_split (fun h => ?_) (fun h => ?_) | with_reducible refine IfB_split (fun h => ?_) (fun h => ?_))
              exact back _ (by (repeat (first | exact hs | refine hA _ _ _ (by decide) ?_))) (by simp only [go_sem, Nat.reduceLT, Nat.reduceEqDiff, Nat.reduceAdd, Nat.reduceMul, Nat.reduceSub, Nat.reduceLeDiff, Int.reduceToNat, Int.reduceNeg, Int.reduceLT, Int.reduceLE, Int.reduceEq, reduceCtorEq]) (by repeat (first | exact hAf | refine hA0 _ _ _ (by decide) ?_))
          rw [hDk (d := stat0) (by unfold chgD; rw [if_neg k1, if_neg (fun h => k2 h.1), if_neg k2]), addv_zero S hSr] at back
          clear hDk
          repeat' (first | simp only [go_sem, Nat.reduceLT, Nat.reduceEqDiff, Nat.reduceAdd, Nat.reduceMul, Nat.reduceSub, Nat.reduceLeDiff, Int.reduceToNat, Int.reduceNeg, Int.reduceLT, Int.reduceLE, Int.reduceEq, reduceCtorEq, Int.natCast_zero, Int.natCast_one, Int.cast_ofNat_Int, Bool.not_not, false_eq_decide, true_eq_decide, hread0, hreadk, read_cons0, read_consk, astore_h0, astore_hk, hget0, hgetk, hset0, hsetk, hlen, hcat, Nat.add_assoc, Nat.add_zero, Nat.zero_add, List.length_append, and_true, true_and, AV.flat, ga0, get_app ga0, read_get ga0, read_app ga0, *, -hK, -hm, -hfa, -I, -back, -hSr, -hw, -hbk, -hR2, -hS] | with_reducible refine IfB_dec (fun h => ?_) (fun h => ?_) | with_reducible refine Guard_dec (fun h => ?_) (fun h => ?_) | with_reducible refine Guard_ndec (fun h => ?_) (fun h => ?_) | with_reducible refine Guard_not (fun h => ?_) (fun h => ?_) | with_reducible refine IfB_ndec (fun h => ?_) (fun h => ?_) | with_reducible refine IfB_not (fun h => ?_) (fun h => ?_) | with_reducible refine Guard_split (fun h => ?_) (fun h => ?_) | with_reducible refine IfB_split (fun h => ?_) (fun h => ?_))
          exact back _ (by (repeat (first | exact hs | refine hA _ _ _ (by decide) ?_))) (by simp only [go_sem, Nat.reduceLT, Nat.reduceEqDiff, Nat.reduceAdd, Nat.reduceMul, Nat.reduceSub, Nat.reduceLeDiff, Int.reduceToNat, Int.reduceNeg, Int.reduceLT, Int.reduceLE, Int.reduceEq, reduceCtorEq]) (by repeat (first | exact hAf | refine hA0 _ _ _ (by decide) ?_))
      · have hz := (cz (D := (unitS 0 (c.keys.length : Int)).add (unitS 1 (c.keys.length : Int))) (by unfold cmdD; rw [if_pos kk1, if_pos kk1, if_neg hr]; simp [Stat.add, unitS, Stat.upd, stat0]; omega)).trans (addv01 s hsr _ _)
        clear cz
        clear hsi
        have hsi := hs0
        have n7 : ¬ r.kind = 7 := fun h => hr (.inl h)
        have n4 : ¬ r.kind = 4 := fun h => hr (.inr (.inl h))
        have n5 : ¬ r.kind = 5 := fun h => hr (.inr (.inr h))
        clear hr
        repeat' (first | simp only [go_sem, Nat.reduceLT, Nat.reduceEqDiff, Nat.reduceAdd, Nat.reduceMul, Nat.reduceSub, Nat.reduceLeDiff, Int.reduceToNat, Int.reduceNeg, Int.reduceLT, Int.reduceLE, Int.reduceEq, reduceCtorEq, Int.natCast_zero, Int.natCast_one, Int.cast_ofNat_Int, Bool.not_not, false_eq_decide, true_eq_decide, hread0, hreadk, read_cons0, read_consk, astore_h0, astore_hk, hget0, hgetk, hset0, hsetk, hlen, hcat, Nat.add_assoc, Nat.add_zero, Nat.zero_add, List.length_append, and_true, true_and, AV.flat, gq0, get_app gq0, read_get gq0, read_app gq0, gq1, get_app gq1, read_get gq1, read_app gq1, gq2, get_app gq2, read_get gq2, read_app gq2, *, -hK, -hm, -hfa, -hw, -I, -hR, -gq3, -gq4, -hsr, -hz, -hsi, -hs0, -upA, -upB, -upC] | refine WC.call (upA _) ?_ | refine WC.call (upB _) ?_ | refine WC.call (upC _) ?_ | with_reducible refine IfB_dec (fun h => ?_) (fun h => ?_) | with_reducible refine Guard_dec (fun h => ?_) (fun h => ?_) | with_reducible refine Guard_ndec (fun h => ?_) (fun h => ?_) | with_reducible refine Guard_not (fun h => ?_) (fun h => ?_) | with_reducible refine IfB_ndec (fun h => ?_) (fun h => ?_) | with_reducible refine IfB_not (fun h => ?_) (fun h => ?_) | with_reducible refine Guard_split (fun h => ?_) (fun h => ?_) | with_reducible refine IfB_split (fun h => ?_) (fun h => ?_))
        clear upA upB upC
        have hb : (0 : Int) ≤ 1 ∧ (1 : Int) ≤ 140737488355328 := by omega
        have hbk := hR
        have hA0 := hA
        have o3 := s3
        have o4 := s4
        have o5 := s5
        have o6 := s6
        have o8 := s8
        have o9 := s9
        refine WX_loopS [3, 4, 5, 6, 8, 9, 10, 11] (fun q fr' H' => ∃ j : Nat, q = l.length - j ∧ j ≤ l.length ∧ fr'.get 13 = .int .i64 j ∧ H' = G ++ [⟨(s.addv ((comD c r i).add (sumT i (l.take j)))).cs, 0, .full⟩] ∧ A fr') l.length ⟨0, rfl, by omega, by simp only [go_sem, Nat.reduceLT, Nat.reduceEqDiff, Nat.reduceAdd, Nat.reduceMul, Nat.reduceSub, Nat.reduceLeDiff, Int.reduceToNat, Int.reduceNeg, Int.reduceLT, Int.reduceLE, Int.reduceEq, reduceCtorEq]; rfl, by rw [hz]; rfl, by (repeat (first | exact hs | refine hA _ _ _ (by decide) ?_))⟩ ?_
        clear hg hs hA s3 s4 s5 s6 s8 s9 hz
        rintro q fr2 H2 A2 R2 hA hs hg hR2 ⟨j, rfl, hj, f13, rfl, hAf⟩
        have s3 := hg 3 (by decide)
        have s4 := hg 4 (by decide)
        have s5 := hg 5 (by decide)
        have s6 := hg 6 (by decide)
        have s8 := hg 8 (by decide)
        have s9 := hg 9 (by decide)
        have s10 := hg 10 (by decide)
        have s11 := hg 11 (by decide)
        simp only [Fr.get_put, Fr.get_init, List.getD_cons_zero, List.getD_cons_succ, Nat.reduceEqDiff, if_true, if_false] at s3 s4 s5 s6 s8 s9 s10 s11
        rw [o3] at s3
        rw [o4] at s4
        rw [o5] at s5
        rw [o6] at s6
        rw [o8] at s8
        rw [o9] at s9
        rw [f10] at s10
        clear f10 o3 o4 o5 o6 o8 o9
        refine wx_sound hT _ ?_
        have hSr : (s.addv ((comD c r i).add (sumT i (l.take j)))).rng := addv_rng _ _ hsr (add_pos (comD_pos c r i) (sumT_pos _ _)).1
        by_cases hlj : j < l.length
        rotate_left
        · have i4 : ¬ (j : Int) < l.length := by omega
          rw [show j = l.length by omega, List.take_length]
          clear hR2 hSr
          have hfin : s.addv ((comD c r i).add (sumT i l)) = (moreL a.ts (cntD c r l))[i]'(by rw [moreL_len]; exact hlt) := by rw [moreL_at hlt, ← hsi]; rfl
          generalize s.addv ((comD c r i).add (sumT i l)) = S at *
          have I2 := I.keep (Keep.snoc none G (⟨S.cs, 0, .full⟩ : Blk))
          have hp : (G ++ [(⟨S.cs, 0, .full⟩ : Blk)])[G.length]? = some ⟨S.cs, 0, .full⟩ := get_last _ _
          generalize hG2 : (G ++ [(⟨S.cs, 0, .full⟩ : Blk)] : Heap) = G2 at *
          clear hG2
          have ga0 := I2.g0
          have ga4 := I2.g4
          have hv := I2.ow.one
          unfold Stat.cs at hp
          repeat' (first | simp only [go_sem, Nat.reduceLT, Nat.reduceEqDiff, Nat.reduceAdd, Nat.reduceMul, Nat.reduceSub, Nat.reduceLeDiff, Int.reduceToNat, Int.reduceNeg, Int.reduceLT, Int.reduceLE, Int.reduceEq, reduceCtorEq, Int.natCast_zero, Int.natCast_one, Int.cast_ofNat_Int, Bool.not_not, false_eq_decide, true_eq_decide, hread0, hreadk, read_cons0, read_consk, astore_h0, astore_hk, hget0, hgetk, hset0, hsetk, hlen, hcat, Nat.add_assoc, Nat.add_zero, Nat.zero_add, List.length_append, and_true, true_and, AV.flat, ga0, get_app ga0, read_get ga0, read_app ga0, ga4, get_app ga4, read_get ga4, read_app ga4, hp, get_app hp, read_get hp, read_app hp, hv, one_solid hv, one_cells hv, *, -hK, -hm, -hfa, -I, -I2, -hw, -hfin, -hbk, -hsi] | with_reducible refine IfB_dec (fun h => ?_) (fun h => ?_) | with_reducible refine Guard_dec (fun h => ?_) (fun h => ?_) | with_reducible refine Guard_ndec (fun h => ?_) (fun h => ?_) | with_reducible refine Guard_not (fun h => ?_) (fun h => ?_) | with_reducible refine IfB_ndec (fun h => ?_) (fun h => ?_) | with_reducible refine IfB_not (fun h => ?_) (fun h => ?_) | with_reducible refine Guard_split (fun h => ?_) (fun h => ?_) | with_reducible refine IfB_split (fun h => ?_) (fun h => ?_))
          refine append1_enc (E := statE) (m := H.length + 5) (x := S) I2.ow rfl se22 az47 td47 tk22 rfl rfl (by decide) (by rw [List.length_take, moreL_len]; simp only [statE]; omega) (by have := (List.getElem?_eq_some_iff.1 ga4).1; omega) ?_
          intro v4 H4 o4 k4 hn4
          have I3 := I2.app o4 k4
          have hv4 := o4.one
          have gb4 := k4.get ga4 (fun e => by have := I2.ow.ge e; omega)
          rw [hfin, ← List.take_succ_eq_append_getElem] at I3
          repeat' (first | simp only [go_sem, Nat.reduceLT, Nat.reduceEqDiff, Nat.reduceAdd, Nat.reduceMul, Nat.reduceSub, Nat.reduceLeDiff, Int.reduceToNat, Int.reduceNeg, Int.reduceLT, Int.reduceLE, Int.reduceEq, reduceCtorEq, Int.natCast_zero, Int.natCast_one, Int.cast_ofNat_Int, Bool.not_not, false_eq_decide, true_eq_decide, hread0, hreadk, read_cons0, read_consk, astore_h0, astore_hk, hget0, hgetk, hset0, hsetk, hlen, hcat, Nat.add_assoc, Nat.add_zero, Nat.zero_add, List.length_append, and_true, true_and, AV.flat, gb4, get_app gb4, read_get gb4, read_app gb4, astore_get gb4, astore_app gb4, get_set gb4, get_set_app gb4, read_set gb4, read_set_app gb4, astore_set gb4, astore_set_app gb4, List.set_set, hget0s, hgetks, hread0s, hreadks, List.length_set, hv4, one_solid hv4, one_cells hv4, *, -hK, -hm, -hfa, -I, -I2, -I3, -hw, -hfin, -hbk, -o4, -k4, -hn4, -ga0, -ga4, -hsi, -hp] | with_reducible refine IfB_dec (fun h => ?_) (fun h => ?_) | with_reducible refine Guard_dec (fun h => ?_) (fun h => ?_) | with_reducible refine Guard_ndec (fun h => ?_) (fun h => ?_) | with_reducible refine Guard_not (fun h => ?_) (fun h => ?_) | with_reducible refine IfB_ndec (fun h => ?_) (fun h => ?_) | with_reducible refine IfB_not (fun h => ?_) (fun h => ?_) | with_reducible refine Guard_split (fun h => ?_) (fun h => ?_) | with_reducible refine IfB_split (fun h => ?_) (fun h => ?_))
          exact hbk _ _ (by repeat (first | exact hAf | refine hA0 _ _ _ (by decide) ?_)) (a.ts.length - (i + 1)) (by omega) ⟨i + 1, _, rfl, by omega, by simp only [go_sem, Nat.reduceLT, Nat.reduceEqDiff, Nat.reduceAdd, Nat.reduceMul, Nat.reduceSub, Nat.reduceLeDiff, Int.reduceToNat, Int.reduceNeg, Int.reduceLT, Int.reduceLE, Int.reduceEq, reduceCtorEq], I3⟩
        have i4 : (j : Int) < l.length := by omega
        have e1 := at_enc (E := chgE) (T := T) (k := .i64) se33 hlj rfl
        have e3 := inc_id hlj hl
        obtain ⟨hx0, hx4⟩ := hfa l[j] (List.getElem_mem hlj)
        have hxw := hw l[j] (List.getElem_mem hlj)
        have ga0 := I.g0
        have hst : ∀ t, sumT t (l.take (j + 1)) = (sumT t (l.take j)).add (chgT t l[j]) := fun t => by rw [List.take_succ_eq_append_getElem hlj, sumT_snoc]
        have back : ∀ fr3, A2 fr3 → fr3.get 13 = .int .i64 ((j + 1 : Nat) : Int) → A fr3 → R2 fr3 (G ++ [⟨(s.addv ((comD c r i).add (sumT i (l.take (j + 1))))).cs, 0, .full⟩]) := fun fr3 ha g1 h3 => hR2 fr3 _ ha (l.length - (j + 1)) (by omega) ⟨j + 1, rfl, by omega, g1, rfl, h3⟩
        generalize l[j] = x at *
        obtain ⟨kd, tn, ik, iv, fl, du, un, ky, wy, to, pr⟩ := x
        simp only at hx0 hx4 hxw
        rw [chgE_cells] at e1
        simp only at e1
        by_cases ht2 : tn = (i : Int)
        rotate_left
        · rw [show s.addv ((comD c r i).add (sumT i (l.take (j + 1)))) = s.addv ((comD c r i).add (sumT i (l.take j))) by rw [hst, show chgT i ⟨kd, tn, ik, iv, fl, du, un, ky, wy, to, pr⟩ = stat0 by unfold chgT; rw [if_neg (by show ¬ tn = _; exact ht2)]]; simp [Stat.add, stat0]] at back
          clear hst
          repeat' (first | simp only [go_sem, Nat.reduceLT, Nat.reduceEqDiff, Nat.reduceAdd, Nat.reduceMul, Nat.reduceSub, Nat.reduceLeDiff, Int.reduceToNat, Int.reduceNeg, Int.reduceLT, Int.reduceLE, Int.reduceEq, reduceCtorEq, Int.natCast_zero, Int.natCast_one, Int.cast_ofNat_Int, Bool.not_not, false_eq_decide, true_eq_decide, hread0, hreadk, read_cons0, read_consk, astore_h0, astore_hk, hget0, hgetk, hset0, hsetk, hlen, hcat, Nat.add_assoc, Nat.add_zero, Nat.zero_add, List.length_append, and_true, true_and, AV.flat, ga0, get_app ga0, read_get ga0, read_app ga0, *, -hK, -hm, -hfa, -I, -back, -hSr, -hw, -hbk, -hR2] | with_reducible refine IfB_dec (fun h => ?_) (fun h => ?_) | with_reducible refine Guard_dec (fun h => ?_) (fun h => ?_) | with_reducible refine Guard_ndec (fun h => ?_) (fun h => ?_) | with_reducible refine Guard_not (fun h => ?_) (fun h => ?_) | with_reducible refine IfB_ndec (fun h => ?_) (fun h => ?_) | with_reducible refine IfB_not (fun h => ?_) (fun h => ?_) | with_reducible refine Guard_split (fun h => ?_) (fun h => ?_) | with_reducible refine IfB_split (fun h => ?_) (fun h => ?_))
          exact back _ (by (repeat (first | exact hs | refine hA _ _ _ (by decide) ?_))) (by simp only [go_sem, Nat.reduceLT, Nat.reduceEqDiff, Nat.reduceAdd, Nat.reduceMul, Nat.reduceSub, Nat.reduceLeDiff, Int.reduceToNat, Int.reduceNeg, Int.reduceLT, Int.reduceLE, Int.reduceEq, reduceCtorEq]) (by repeat (first | exact hAf | refine hA0 _ _ _ (by decide) ?_))
        subst ht2
        have hDk : ∀ {d : Stat}, chgD ⟨kd, (i : Int), ik, iv, fl, du, un, ky, wy, to, pr⟩ = d → s.addv ((comD c r i).add (sumT i (l.take (j + 1)))) = (s.addv ((comD c r i).add (sumT i (l.take j)))).addv d := fun {d} h => by
          rw [hst, show chgT i ⟨kd, (i : Int), ik, iv, fl, du, un, ky, wy, to, pr⟩ = d by unfold chgT; rw [if_pos rfl, h], addv_addv _ _ _ (h ▸ (chgD_pos _).1)]
          congr 1
          simp only [Stat.add, Stat.mk.injEq]; omega
        clear hst
        generalize hS : s.addv ((comD c r i).add (sumT i (l.take j))) = S at *
        by_cases k1 : kd = 1
        · subst k1
          rw [hDk (d := unitS 2 1) rfl, addv2 S hSr] at back
          clear hDk
          obtain ⟨S1, S2, S3, S4, S5, S6⟩ := S
          unfold Stat.cs at back ⊢
          simp only at back ⊢
          have up1 := fun J => refUp_spec S3 1 hSr.2.2.1 hb J
          clear hSr
          repeat' (first | simp only [go_sem, Nat.reduceLT, Nat.reduceEqDiff, Nat.reduceAdd, Nat.reduceMul, Nat.reduceSub, Nat.reduceLeDiff, Int.reduceToNat, Int.reduceNeg, Int.reduceLT, Int.reduceLE, Int.reduceEq, reduceCtorEq, Int.natCast_zero, Int.natCast_one, Int.cast_ofNat_Int, Bool.not_not, false_eq_decide, true_eq_decide, hread0, hreadk, read_cons0, read_consk, astore_h0, astore_hk, hget0, hgetk, hset0, hsetk, hlen, hcat, Nat.add_assoc, Nat.add_zero, Nat.zero_add, List.length_append, and_true, true_and, AV.flat, ga0, get_app ga0, read_get ga0, read_app ga0, *, -hK, -hm, -hfa, -I, -back, -up1, -hw, -hS, -hbk, -hR2] | refine WC.call (up1 _) ?_ | with_reducible refine IfB_dec (fun h => ?_) (fun h => ?_) | with_reducible refine Guard_dec (fun h => ?_) (fun h => ?_) | with_reducible refine Guard_ndec (fun h => ?_) (fun h => ?_) | with_reducible refine Guard_not (fun h => ?_) (fun h => ?_) | with_reducible refine IfB_ndec (fun h => ?_) (fun h => ?_) | with_reducible refine IfB_not (fun h => ?_) (fun h => ?_) | with_reducible refine Guard_split (fun h => ?_) (fun h => ?_) | with_reducible refine IfB_split (fun h => ?_) (fun h => ?_))
          exact back _ (by (repeat (first | exact hs | refine hA _ _ _ (by decide) ?_))) (by simp only [go_sem, Nat.reduceLT, Nat.reduceEqDiff, Nat.reduceAdd, Nat.reduceMul, Nat.reduceSub, Nat.reduceLeDiff, Int.reduceToNat, Int.reduceNeg, Int.reduceLT, Int.reduceLE, Int.reduceEq, reduceCtorEq]) (by repeat (first | exact hAf | refine hA0 _ _ _ (by decide) ?_))
        by_cases k2 : kd = 2
        · subst k2
          by_cases k3 : wy = 1
          · subst k3
            rw [hDk (d := unitS 3 1) rfl, addv3 S hSr] at back
            clear hDk
            obtain ⟨S1, S2, S3, S4, S5, S6⟩ := S
            unfold Stat.cs at back ⊢
            simp only at back ⊢
            have up1 := fun J => refUp_spec S4 1 hSr.2.2.2.1 hb J
            clear hSr
            repeat' (first | simp only [go_sem, Nat.reduceLT, Nat.reduceEqDiff, Nat.reduceAdd, Nat.reduceMul, Nat.reduceSub, Nat.reduceLeDiff, Int.reduceToNat, Int.reduceNeg, Int.reduceLT, Int.reduceLE, Int.reduceEq, reduceCtorEq, Int.natCast_zero, Int.natCast_one, Int.cast_ofNat_Int, Bool.not_not, false_eq_decide, true_eq_decide, hread0, hreadk, read_cons0, read_consk, astore_h0, astore_hk, hget0, hgetk, hset0, hsetk, hlen, hcat, Nat.add_assoc, Nat.add_zero, Nat.zero_add, List.length_append, and_true, true_and, AV.flat, ga0, get_app ga0, read_get ga0, read_app ga0, *, -hK, -hm, -hfa, -I, -back, -up1, -hw, -hS, -hbk, -hR2] | refine WC.call (up1 _) ?_ | with_reducible refine IfB_dec (fun h => ?_) (fun h => ?_) | with_reducible refine Guard_dec (fun h => ?_) (fun h => ?_) | with_reducible refine Guard_ndec (fun h => ?_) (fun h => ?_) | with_reducible refine Guard_not (fun h => ?_) (fun h => ?_) | with_reducible refine IfB_ndec (fun h => ?_) (fun h => ?_) | with_reducible refine IfB_not (fun h => ?_) (fun h => ?_) | with_reducible refine Guard_split (fun h => ?_) (fun h => ?_) | with_reducible refine IfB_split (fun h => ?_) (fun h => ?_))
            exact back _ (by (repeat (first | exact hs | refine hA _ _ _ (by decide) ?_))) (by simp only [go_sem, Nat.reduceLT, Nat.reduceEqDiff, Nat.reduceAdd, Nat.reduceMul, Nat.reduceSub, Nat.reduceLeDiff, Int.reduceToNat, Int.reduceNeg, Int.reduceLT, Int.reduceLE, Int.reduceEq, reduceCtorEq]) (by repeat (first | exact hAf | refine hA0 _ _ _ (by decide) ?_))
          · obtain rfl := (hxw rfl).resolve_left k3
            rw [hDk (d := unitS 4 1) rfl, addv4 S hSr] at back
            clear hDk
            obtain ⟨S1, S2, S3, S4, S5, S6⟩ := S
            unfold Stat.cs at back ⊢
            simp only at back ⊢
            have up1 := fun J => refUp_spec S5 1 hSr.2.2.2.2.1 hb J
            clear hSr
            repeat' (first | simp only [go_sem, Nat.reduceLT, Nat.reduceEqDiff, Nat.reduceAdd, Nat.reduceMul, Nat.reduceSub, Nat.reduceLeDiff, Int.reduceToNat, Int.reduceNeg, Int.reduceLT, Int.reduceLE, Int.reduceEq, reduceCtorEq, Int.natCast_zero, Int.natCast_one, Int.cast_ofNat_Int, Bool.not_not, false_eq_decide, true_eq_decide, hread0, hreadk, read_cons0, read_consk, astore_h0, astore_hk, hget0, hgetk, hset0, hsetk, hlen, hcat, Nat.add_assoc, Nat.add_zero, Nat.zero_add, List.length_append, and_true, true_and, AV.flat, ga0, get_app ga0, read_get ga0, read_app ga0, *, -hK, -hm, -hfa, -I, -back, -up1, -hw, -hS, -hbk, -hR2] | refine WC.call (up1 _) ?_ | with_reducible refine IfB_dec (fun h => ?_) (fun h => ?_) | with_reducible refine Guard_dec (fun h => ?_) (fun h => ?_) | with_reducible refine Guard_ndec (fun h => ?_) (fun h => ?_) | with_reducible refine Guard_not (fun h => ?_) (fun h => ?_) | with_reducible refine IfB_ndec (fun h => ?_) (fun h => ?_) | with_reducible refine IfB_not (fun h => ?_) (fun h => ?_) | with_reducible refine Guard_split (fun h => ?_) (fun h => ?_) | with_reducible refine IfB_split (fun h => ?_) (fun h => ?_))
            exact back _ (by (repeat (first | exact hs | refine hA _ _ _ (by decide) ?_))) (by simp only [go_sem, Nat.reduceLT, Nat.reduceEqDiff, Nat.reduceAdd, Nat.reduceMul, Nat.reduceSub, Nat.reduceLeDiff, Int.reduceToNat, Int.reduceNeg, Int.reduceLT, Int.reduceLE, Int.reduceEq, reduceCtorEq]) (by repeat (first | exact hAf | refine hA0 _ _ _ (by decide) ?_))
        rw [hDk (d := stat0) (by unfold chgD; rw [if_neg k1, if_neg (fun h => k2 h.1), if_neg k2]), addv_zero S hSr] at back
        clear hDk
        repeat' (first | simp only [go_sem, Nat.reduceLT, Nat.reduceEqDiff, Nat.reduceAdd, Nat.reduceMul, Nat.reduceSub, Nat.reduceLeDiff, Int.reduceToNat, Int.reduceNeg, Int.reduceLT, Int.reduceLE, Int.reduceEq, reduceCtorEq, Int.natCast_zero, Int.natCast_one, Int.cast_ofNat_Int, Bool.not_not, false_eq_decide, true_eq_decide, hread0, hreadk, read_cons0, read_consk, astore_h0, astore_hk, hget0, hgetk, hset0, hsetk, hlen, hcat, Nat.add_assoc, Nat.add_zero, Nat.zero_add, List.length_append, and_true, true_and, AV.flat, ga0, get_app ga0, read_get ga0, read_app ga0, *, -hK, -hm, -hfa, -I, -back, -hSr, -hw, -hbk, -hR2, -hS] | with_reducible refine IfB_dec (fun h => ?_) (fun h => ?_) | with_reducible refine Guard_dec (fun h => ?_) (fun h => ?_) | with_reducible refine Guard_ndec (fun h => ?_) (fun h => ?_) | with_reducible refine Guard_not (fun h => ?_) (fun h => ?_) | with_reducible refine IfB_ndec (fun h => ?_) (fun h => ?_) | with_reducible refine IfB_not (fun h => ?_) (fun h => ?_) | with_reducible refine Guard_split (fun h => ?_) (fun h => ?_) | with_reducible refine IfB_split (fun h => ?_) (fun h => ?_))
        exact back _ (by (repeat (first | exact hs | refine hA _ _ _ (by decide) ?_))) (by simp only [go_sem, Nat.reduceLT, Nat.reduceEqDiff, Nat.reduceAdd, Nat.reduceMul, Nat.reduceSub, Nat.reduceLeDiff, Int.reduceToNat, Int.reduceNeg, Int.reduceLT, Int.reduceLE, Int.reduceEq, reduceCtorEq]) (by repeat (first | exact hAf | refine hA0 _ _ _ (by decide) ?_))
    · have upB := fun J => refUp_spec s.hits r.its.length hsr.2.1 ⟨by omega, by omega⟩ J
      have hmn : min r.its.length c.keys.length = r.its.length := by omega
      have cz : ∀ {D : Stat}, cmdD c.kind c.keys.length r.kind r.its.length = D → s.addv ((comD c r i).add (sumT i (l.take 0))) = s.addv D := fun {D} h => by
        unfold comD cmdT; rw [if_pos ht, h]
        show s.addv (D.add stat0) = s.addv D
        congr 1; simp [Stat.add, stat0]
      by_cases hr : r.kind = 7 ∨ r.kind = 4 ∨ r.kind = 5
      · have hz := (cz (D := ((unitS 0 (c.keys.length : Int)).add (unitS 1 (r.its.length : Int))).add (unitS 5 1)) (by unfold cmdD; rw [if_pos kk1, if_pos kk1, if_pos hr]; simp [Stat.add, unitS, Stat.upd, stat0]; omega)).trans (addv015 s hsr _ _ _)
        clear cz
        clear hsi
        have hsi := hs0
        have hr3 : r.kind = 7 ∨ (¬ r.kind = 7 ∧ r.kind = 4) ∨ (¬ r.kind = 7 ∧ ¬ r.kind = 4 ∧ r.kind = 5) := by omega
        clear hr
        rcases hr3 with r7 | ⟨n7, r4⟩ | ⟨n7, n4, r5⟩
        all_goals
          repeat' (first | simp only [go_sem, Nat.reduceLT, Nat.reduceEqDiff, Nat.reduceAdd, Nat.reduceMul, Nat.reduceSub, Nat.reduceLeDiff, Int.reduceToNat, Int.reduceNeg, Int.reduceLT, Int.reduceLE, Int.reduceEq, reduceCtorEq, Int.natCast_zero, Int.natCast_one, Int.cast_ofNat_Int, Bool.not_not, false_eq_decide, true_eq_decide, hread0, hreadk, read_cons0, read_consk, astore_h0, astore_hk, hget0, hgetk, hset0, hsetk, hlen, hcat, Nat.add_assoc, Nat.add_zero, Nat.zero_add, List.length_append, and_true, true_and, AV.flat, gq0, get_app gq0, read_get gq0, read_app gq0, gq1, get_app gq1, read_get gq1, read_app gq1, gq2, get_app gq2, read_get gq2, read_app gq2, *, -hK, -hm, -hfa, -hw, -I, -hR, -gq3, -gq4, -hsr, -hz, -hsi, -hs0, -upA, -upB, -upC] | refine WC.call (upA _) ?_ | refine WC.call (upB _) ?_ | refine WC.call (upC _) ?_ | with_reducible refine IfB_dec (fun h => ?_) (fun h => ?_) | with_reducible refine Guard_dec (fun h => ?_) (fun h => ?_) | with_reducible refine Guard_ndec (fun h => ?_) (fun h => ?_) | with_reducible refine Guard_not (fun h => ?_) (fun h => ?_) | with_reducible refine IfB_ndec (fun h => ?_) (fun h => ?_) | with_reducible refine IfB_not (fun h => ?_) (fun h => ?_) | with_reducible refine Guard_split (fun h => ?_) (fun h => ?_) | with_reducible refine IfB_split (fun h => ?_) (fun h => ?_))
          clear upA upB upC
          have hb : (0 : Int) ≤ 1 ∧ (1 : Int) ≤ 140737488355328 := by omega
          have hbk := hR
          have hA0 := hA
          have o3 := s3
          have o4 := s4
          have o5 := s5
          have o6 := s6
          have o8 := s8
          have o9 := s9
          refine WX_loopS [3, 4, 5, 6, 8, 9, 10, 11] (fun q fr' H' => ∃ j : Nat, q = l.length - j ∧ j ≤ l.length ∧ fr'.get 13 = .int .i64 j ∧ H' = G ++ [⟨(s.addv ((comD c r i).add (sumT i (l.take j)))).cs, 0, .full⟩] ∧ A fr') l.length ⟨0, rfl, by omega, by simp only [go_sem, Nat.reduceLT, Nat.reduceEqDiff, Nat.reduceAdd, Nat.reduceMul, Nat.reduceSub, Nat.reduceLeDiff, Int.reduceToNat, Int.reduceNeg, Int.reduceLT, Int.reduceLE, Int.reduceEq, reduceCtorEq]; rfl, by rw [hz]; rfl, by (repeat (first | exact hs | refine hA _ _ _ (by decide) ?_))⟩ ?_
          clear hg hs hA s3 s4 s5 s6 s8 s9 hz
          rintro q fr2 H2 A2 R2 hA hs hg hR2 ⟨j, rfl, hj, f13, rfl, hAf⟩
          have s3 := hg 3 (by decide)
          have s4 := hg 4 (by decide)
          have s5 := hg 5 (by decide)
          have s6 := hg 6 (by decide)
          have s8 := hg 8 (by decide)
          have s9 := hg 9 (by decide)
          have s10 := hg 10 (by decide)
          have s11 := hg 11 (by decide)
          simp only [Fr.get_put, Fr.get_init, List.getD_cons_zero, List.getD_cons_succ, Nat.reduceEqDiff, if_true, if_false] at s3 s4 s5 s6 s8 s9 s10 s11
          rw [o3] at s3
          rw [o4] at s4
          rw [o5] at s5
          rw [o6] at s6
          rw [o8] at s8
          rw [o9] at s9
          rw [f10] at s10
          clear f10 o3 o4 o5 o6 o8 o9
          refine wx_sound hT _ ?_
          have hSr : (s.addv ((comD c r i).add (sumT i (l.take j)))).rng := addv_rng _ _ hsr (add_pos (comD_pos c r i) (sumT_pos _ _)).1
          by_cases hlj : j < l.length
          rotate_left
          · have i4 : ¬ (j : Int) < l.length := by omega
            rw [show j = l.length by omega, List.take_length]
            clear hR2 hSr
            have hfin : s.addv ((comD c r i).add (sumT i l)) = (moreL a.ts (cntD c r l))[i]'(by rw [moreL_len]; exact hlt) := by rw [moreL_at hlt, ← hsi]; rfl
            generalize s.addv ((comD c r i).add (sumT i l)) = S at *
            have I2 := I.keep (Keep.snoc none G (⟨S.cs, 0, .full⟩ : Blk))
            have hp : (G ++ [(⟨S.cs, 0, .full⟩ : Blk)])[G.length]? = some ⟨S.cs, 0, .full⟩ := get_last _ _
            generalize hG2 : (G ++ [(⟨S.cs, 0, .full⟩ : Blk)] : Heap) = G2 at *
            clear hG2
            have ga0 := I2.g0
            have ga4 := I2.g4
            have hv := I2.ow.one
            unfold Stat.cs at hp
            repeat' (first | simp only [go_sem, Nat.reduceLT, Nat.reduceEqDiff, Nat.reduceAdd, Nat.reduceMul, Nat.reduceSub, Nat.reduceLeDiff, Int.reduceToNat, Int.reduceNeg, Int.reduceLT, Int.reduceLE, Int.reduceEq, reduceCtorEq, Int.natCast_zero, Int.natCast_one, Int.cast_ofNat_Int, Bool.not_not, false_eq_decide, true_eq_decide, hread0, hreadk, read_cons0, read_consk, astore_h0, astore_hk, hget0, hgetk, hset0, hsetk, hlen, hcat, Nat.add_assoc, Nat.add_zero, Nat.zero_add, List.length_append, and_true, true_and, AV.flat, ga0, get_app ga0, read_get ga0, read_app ga0, ga4, get_app ga4, read_get ga4, read_app ga4, hp, get_app hp, read_get hp, read_app hp, hv, one_solid hv, one_cells hv, *, -hK, -hm, -hfa, -I, -I2, -hw, -hfin, -hbk, -hsi] | with_reducible refine IfB_dec (fun h => ?_) (fun h => ?_) | with_reducible refine Guard_dec (fun h => ?_) (fun h => ?_) | with_reducible refine Guard_ndec (fun h => ?_) (fun h => ?_) | with_reducible refine Guard_not (fun h => ?_) (fun h => ?_) | with_reducible refine IfB_ndec (fun h => ?_) (fun h => ?_) | with_reducible refine IfB_not (fun h => ?_) (fun h => ?_) | with_reducible refine Guard_split (fun h => ?_) (fun h => ?_) | with_reducible refine IfB_split (fun h => ?_) (fun h => ?_))
            refine append1_enc (E := statE) (m := H.length + 5) (x := S) I2.ow rfl se22 az47 td47 tk22 rfl rfl (by decide) (by rw [List.length_take, moreL_len]; simp only [statE]; omega) (by have := (List.getElem?_eq_some_iff.1 ga4).1; omega) ?_
            intro v4 H4 o4 k4 hn4
            have I3 := I2.app o4 k4
            have hv4 := o4.one
            have gb4 := k4.get ga4 (fun e => by have := I2.ow.ge e; omega)
            rw [hfin, ← List.take_succ_eq_append_getElem] at I3
            repeat' (first | simp only [go_sem, Nat.reduceLT, Nat.reduceEqDiff, Nat.reduceAdd, Nat.reduceMul, Nat.reduceSub, Nat.reduceLeDiff, Int.reduceToNat, Int.reduceNeg, Int.reduceLT, Int.reduceLE, Int.reduceEq, reduceCtorEq, Int.natCast_zero, Int.natCast_one, Int.cast_ofNat_Int, Bool.not_not, false_eq_decide, true_eq_decide, hread0, hreadk, read_cons0, read_consk, astore_h0, astore_hk, hget0, hgetk, hset0, hsetk, hlen, hcat, Nat.add_assoc, Nat.add_zero, Nat.zero_add, List.length_append, and_true, true_and, AV.flat, gb4, get_app gb4, read_get gb4, read_app gb4, astore_get gb4, astore_app gb4, get_set gb4, get_set_app gb4, read_set gb4, read_set_app gb4, astore_set gb4, astore_set_app gb4, List.set_set, hget0s, hgetks, hread0s, hreadks, List.length_set, hv4, one_solid hv4, one_cells hv4, *, -hK, -hm, -hfa, -I, -I2, -I3, -hw, -hfin, -hbk, -o4, -k4, -hn4, -ga0, -ga4, -hsi, -hp] | with_reducible refine IfB_dec (fun h => ?_) (fun h => ?_) | with_reducible refine Guard_dec (fun h => ?_) (fun h => ?_) | with_reducible refine Guard_ndec (fun h => ?_) (fun h => ?_) | with_reducible refine Guard_not (fun h => ?_) (fun h => ?_) | with_reducible refine IfB_ndec (fun h => ?_) (fun h => ?_) | with_reducible refine IfB_not (fun h => ?_) (fun h => ?_) | with_reducible refine Guard_split (fun h => ?_) (fun h => ?_) | with_reducible refine IfB_split (fun h => ?_) (fun h => ?_))
            exact hbk _ _ (by repeat (first | exact hAf | refine hA0 _ _ _ (by decide) ?_)) (a.ts.length - (i + 1)) (by omega) ⟨i + 1, _, rfl, by omega, by simp only [go_sem, Nat.reduceLT, Nat.reduceEqDiff, Nat.reduceAdd, Nat.reduceMul, Nat.reduceSub, Nat.reduceLeDiff, Int.reduceToNat, Int.reduceNeg, Int.reduceLT, Int.reduceLE, Int.reduceEq, reduceCtorEq], I3⟩
          have i4 : (j : Int) < l.length := by omega
          have e1 := at_enc (E := chgE) (T := T) (k := .i64) se33 hlj rfl
          have e3 := inc_id hlj hl
          obtain ⟨hx0, hx4⟩ := hfa l[j] (List.getElem_mem hlj)
          have hxw := hw l[j] (List.getElem_mem hlj)
          have ga0 := I.g0
          have hst : ∀ t, sumT t (l.take (j + 1)) = (sumT t (l.take j)).add (chgT t l[j]) := fun t => by rw [List.take_succ_eq_append_getElem hlj, sumT_snoc]
          have back : ∀ fr3, A2 fr3 → fr3.get 13 = .int .i64 ((j + 1 : Nat) : Int) → A fr3 → R2 fr3 (G ++ [⟨(s.addv ((comD c r i).add (sumT i (l.take (j + 1))))).cs, 0, .full⟩]) := fun fr3 ha g1 h3 => hR2 fr3 _ ha (l.length - (j + 1)) (by omega) ⟨j + 1, rfl, by omega, g1, rfl, h3⟩
          generalize l[j] = x at *
          obtain ⟨kd, tn, ik, iv, fl, du, un, ky, wy, to, pr⟩ := x
          simp only at hx0 hx4 hxw
          rw [chgE_cells] at e1
          simp only at e1
          by_cases ht2 : tn = (i : Int)
          rotate_left
          · rw [show s.addv ((comD c r i).add (sumT i (l.take (j + 1)))) = s.addv ((comD c r i).add (sumT i (l.take j))) by rw [hst, show chgT i ⟨kd, tn, ik, iv, fl, du, un, ky, wy, to, pr⟩ = stat0 by unfold chgT; rw [if_neg (by show ¬ tn = _; exact ht2)]]; simp [Stat.add, stat0]] at back
            clear hst
            repeat' (first | simp only [go_sem, Nat.reduceLT, Nat.reduceEqDiff, Nat.reduceAdd, Nat.reduceMul, Nat.reduceSub, Nat.reduceLeDiff, Int.reduceToNat, Int.reduceNeg, Int.reduceLT, Int.reduceLE, Int.reduceEq, reduceCtorEq, Int.natCast_zero, Int.natCast_one, Int.cast_ofNat_Int, Bool.not_not, false_eq_decide, true_eq_decide, hread0, hreadk, read_cons0, read_consk, astore_h0, astore_hk, hget0, hgetk, hset0, hsetk, hlen, hcat, Nat.add_assoc, Nat.add_zero, Nat.zero_add, List.length_append, and_true, true_and, AV.flat, ga0, get_app ga0, read_get ga0, read_app ga0, *, -hK, -hm, -hfa, -I, -back, -hSr, -hw, -hbk, -hR2] | with_reducible refine IfB_dec (fun h => ?_) (fun h => ?_) | with_reducible refine Guard_dec (fun h => ?_) (fun h => ?_) | with_reducible refine Guard_ndec (fun h => ?_) (fun h => ?_) | with_reducible refine Guard_not (fun h => ?_) (fun h => ?_) | with_reducible refine IfB_ndec (fun h => ?_) (fun h => ?_) | with_reducible refine IfB_not (fun h => ?_) (fun h => ?_) | with_reducible refine Guard_split (fun h => ?_) (fun h => ?_) | with_reducible refine IfB_split (fun h => ?_) (fun h => ?_))
            exact back _ (by (repeat (first | exact hs | refine hA _ _ _ (by decide) ?_))) (by simp only [go_sem, Nat.reduceLT, Nat.reduceEqDiff, Nat.reduceAdd, Nat.reduceMul, Nat.reduceSub, Nat.reduceLeDiff, Int.reduceToNat, Int.reduceNeg, Int.reduceLT, Int.reduceLE, Int.reduceEq, reduceCtorEq]) (by repeat (first | exact hAf | refine hA0 _ _ _ (by decide) ?_))
          subst ht2
          have hDk : ∀ {d : Stat}, chgD ⟨kd, (i : Int), ik, iv, fl, du, un, ky, wy, to, pr⟩ = d → s.addv ((comD c r i).add (sumT i (l.take (j + 1)))) = (s.addv ((comD c r i).add (sumT i (l.take j)))).addv d := fun {d} h => by
            rw [hst, show chgT i ⟨kd, (i : Int), ik, iv, fl, du, un, ky, wy, to, pr⟩ = d by unfold chgT; rw [if_pos rfl, h], addv_addv _ _ _ (h ▸ (chgD_pos _).1)]
            congr 1
            simp only [Stat.add, Stat.mk.injEq]; omega
          clear hst
          generalize hS : s.addv ((comD c r i).add (sumT i (l.take j))) = S at *
          by_cases k1 : kd = 1
          · subst k1
            rw [hDk (d := unitS 2 1) rfl, addv2 S hSr] at back
            clear hDk
            obtain ⟨S1, S2, S3, S4, S5, S6⟩ := S
            unfold Stat.cs at back ⊢
            simp only at back ⊢
            have up1 := fun J => refUp_spec S3 1 hSr.2.2.1 hb J
            clear hSr
            repeat' (first | simp only [go_sem, Nat.reduceLT, Nat.reduceEqDiff, Nat.reduceAdd, Nat.reduceMul, Nat.reduceSub, Nat.reduceLeDiff, Int.reduceToNat, Int.reduceNeg, Int.reduceLT, Int.reduceLE, Int.reduceEq, reduceCtorEq, Int.natCast_zero, Int.natCast_one, Int.cast_ofNat_Int, Bool.not_not, false_eq_decide, true_eq_decide, hread0, hreadk, read_cons0, read_consk, astore_h0, astore_hk, hget0, hgetk, hset0, hsetk, hlen, hcat, Nat.add_assoc, Nat.add_zero, Nat.zero_add, List.length_append, and_true, true_and, AV.flat, ga0, get_app ga0, read_get ga0, read_app ga0, *, -hK, -hm, -hfa, -I, -back, -up1, -hw, -hS, -hbk, -hR2] | refine WC.call (up1 _) ?_ | with_reducible refine IfB_dec (fun h => ?_) (fun h => ?_) | with_reducible refine Guard_dec (fun h => ?_) (fun h => ?_) | with_reducible refine Guard_ndec (fun h => ?_) (fun h => ?_) | with_reducible refine Guard_not (fun h => ?_) (fun h => ?_) | with_reducible refine IfB_ndec (fun h => ?_) (fun h => ?_) | with_reducible refine IfB_not (fun h => ?_) (fun h => ?_) | with_reducible refine Guard_split (fun h => ?_) (fun h => ?_) | with_reducible refine IfB_split (fun h => ?_) (fun h => ?_))
            exact back _ (by (repeat (first | exact hs | refine hA _ _ _ (by decide) ?_))) (by simp only [go_sem, Nat.reduceLT, Nat.reduceEqDiff, Nat.reduceAdd, Nat.reduceMul, Nat.reduceSub, Nat.reduceLeDiff, Int.reduceToNat, Int.reduceNeg, Int.reduceLT, Int.reduceLE, Int.reduceEq, reduceCtorEq]) (by repeat (first | exact hAf | refine hA0 _ _ _ (by decide) ?_))
          by_cases k2 : kd = 2
          · subst k2
            by_cases k3 : wy = 1
            · subst k3
              rw [hDk (d := unitS 3 1) rfl, addv3 S hSr] at back
              clear hDk
              obtain ⟨S1, S2, S3, S4, S5, S6⟩ := S
              unfold Stat.cs at back ⊢
              simp only at back ⊢
              have up1 := fun J => refUp_spec S4 1 hSr.2.2.2.1 hb J
              clear hSr
              repeat' (first | simp only [go_sem, Nat.reduceLT, Nat.reduceEqDiff, Nat.reduceAdd, Nat.reduceMul, Nat.reduceSub, Nat.reduceLeDiff, Int.reduceToNat, Int.reduceNeg, Int.reduceLT, Int.reduceLE, Int.reduceEq, reduceCtorEq, Int.natCast_zero, Int.natCast_one, Int.cast_ofNat_Int, Bool.not_not, false_eq_decide, true_eq_decide, hread0, hreadk, read_cons0, read_consk, astore_h0, astore_hk, hget0, hgetk, hset0, hsetk, hlen, hcat, Nat.add_assoc, Nat.add_zero, Nat.zero_add, List.length_append, and_true, true_and, AV.flat, ga0, get_app ga0, read_get ga0, read_app ga0, *, -hK, -hm, -hfa, -I, -back, -up1, -hw, -hS, -hbk, -hR2] | refine WC.call (up1 _) ?_ | with_reducible refine IfB_dec (fun h => ?_) (fun h => ?_) | with_reducible refine Guard_dec (fun h => ?_) (fun h => ?_) | with_reducible refine Guard_ndec (fun h => ?_) (fun h => ?_) | with_reducible refine Guard_not (fun h => ?_) (fun h => ?_) | with_reducible refine IfB_ndec (fun h => ?_) (fun h => ?_) | with_reducible refine IfB_not (fun h => ?_) (fun h => ?_) | with_reducible refine Guard_split (fun h => ?_) (fun h => ?_) | with_reducible refine IfB_split (fun h => ?_) (fun h => ?_))
              exact back _ (by (repeat (first | exact hs | refine hA _ _ _ (by decide) ?_))) (by simp only [go_sem, Nat.reduceLT, Nat.reduceEqDiff, Nat.reduceAdd, Nat.reduceMul, Nat.reduceSub, Nat.reduceLeDiff, Int.reduceToNat, Int.reduceNeg, Int.reduceLT, Int.reduceLE, Int.reduceEq, reduceCtorEq]) (by repeat (first | exact hAf | refine hA0 _ _ _ (by decide) ?_))
            · obtain rfl := (hxw rfl).resolve_left k3
              rw [hDk (d := unitS 4 1) rfl, addv4 S hSr] at back
              clear hDk
              obtain ⟨S1, S2, S3, S4, S5, S6⟩ := S
              unfold Stat.cs at back ⊢
              simp only at back ⊢
              have up1 := fun J => refUp_spec S5 1 hSr.2.2.2.2.1 hb J
              clear hSr
              repeat' (first | simp only [go_sem, Nat.reduceLT, Nat.reduceEqDiff, Nat.reduceAdd, Nat.reduceMul, Nat.reduceSub, Nat.reduceLeDiff, Int.reduceToNat, Int.reduceNeg, Int.reduceLT, Int.reduceLE, Int.reduceEq, reduceCtorEq, Int.natCast_zero, Int.natCast_one, Int.cast_ofNat_Int, Bool.not_not, false_eq_decide, true_eq_decide, hread0, hreadk, read_cons0, read_consk, astore_h0, astore_hk, hget0, hgetk, hset0, hsetk, hlen, hcat, Nat.add_assoc, Nat.add_zero, Nat.zero_add, List.length_append, and_true, true_and, AV.flat, ga0, get_app ga0, read_get ga0, read_app ga0, *, -hK, -hm, -hfa, -I, -back, -up1, -hw, -hS, -hbk, -hR2] | refine WC.call (up1 _) ?_ | with_reducible refine IfB_dec (fun h => ?_) (fun h => ?_) | with_reducible refine Guard_dec (fun h => ?_) (fun h => ?_) | with_reducible refine Guard_ndec (fun h => ?_) (fun h => ?_) | with_reducible refine Guard_not (fun h => ?_) (fun h => ?_) | with_reducible refine IfB_ndec (fun h => ?_) (fun h => ?_) | with_reducible refine IfB_not (fun h => ?_) (fun h => ?_) | with_reducible refine Guard_split (fun h => ?_) (fun h => ?_) | with_reducible refine IfB_split (fun h => ?_) (fun h => ?_))
              exact back _ (by (repeat (first | exact hs | refine hA _ _ _ (by decide) ?_))) (by simp only [go_sem, Nat.reduceLT, Nat.reduceEqDiff, Nat.reduceAdd, Nat.reduceMul, Nat.reduceSub, Nat.reduceLeDiff, Int.reduceToNat, Int.reduceNeg, Int.reduceLT, Int.reduceLE, Int.reduceEq, reduceCtorEq]) (by repeat (first | exact hAf | refine hA0 _ _ _ (by decide) ?_))
          rw [hDk (d := stat0) (by unfold chgD; rw [if_neg k1, if_neg (fun h => k2 h.1), if_neg k2]), addv_zero S hSr] at back
          clear hDk
          repeat' (first | simp only [go_sem, Nat.reduceLT, Nat.reduceEqDiff, Nat.reduceAdd, Nat.reduceMul, Nat.reduceSub, Nat.reduceLeDiff, Int.reduceToNat, Int.reduceNeg, Int.reduceLT, Int.reduceLE, Int.reduceEq, reduceCtorEq, Int.natCast_zero, Int.natCast_one, Int.cast_ofNat_Int, Bool.not_not, false_eq_decide, true_eq_decide, hread0, hreadk, read_cons0, read_consk, astore_h0, astore_hk, hget0, hgetk, hset0, hsetk, hlen, hcat, Nat.add_assoc, Nat.add_zero, Nat.zero_add, List.length_append, and_true, true_and, AV.flat, ga0, get_app ga0, read_get ga0, read_app ga0, *, -hK, -hm, -hfa, -I, -back, -hSr, -hw, -hbk, -hR2, -hS] | with_reducible refine IfB_dec (fun h => ?_) (fun h => ?_) | with_reducible refine Guard_dec (fun h => ?_) (fun h => ?_) | with_reducible refine Guard_ndec (fun h => ?_) (fun h => ?_) | with_reducible refine Guard_not (fun h => ?_) (fun h => ?_) | with_reducible refine IfB_ndec (fun h => ?_) (fun h => ?_) | with_reducible refine IfB_not (fun h => ?_) (fun h => ?_) | with_reducible refine Guard_split (fun h => ?_) (fun h => ?_) | with_reducible refine IfB_split (fun h => ?_) (fun h => ?_))
          exact back _ (by (repeat (first | exact hs | refine hA _ _ _ (by decide) ?_))) (by simp only [go_sem, Nat.reduceLT, Nat.reduceEqDiff, Nat.reduceAdd, Nat.reduceMul, Nat.reduceSub, Nat.reduceLeDiff, Int.reduceToNat, Int.reduceNeg, Int.reduceLT, Int.reduceLE, Int.reduceEq, reduceCtorEq]) (by repeat (first | exact hAf | refine hA0 _ _ _ (by decide) ?_))
      · have hz := (cz (D := (unitS 0 (c.keys.length : Int)).add (unitS 1 (r.its.length : Int))) (by unfold cmdD; rw [if_pos kk1, if_pos kk1, if_neg hr]; simp [Stat.add, unitS, Stat.upd, stat0]; omega)).trans (addv01 s hsr _ _)
        clear cz
        clear hsi
        have hsi := hs0
        have n7 : ¬ r.kind = 7 := fun h => hr (.inl h)
        have n4 : ¬ r.kind = 4 := fun h => hr (.inr (.inl h))
        have n5 : ¬ r.kind = 5 := fun h => hr (.inr (.inr h))
        clear hr
        repeat' (first | simp only [go_sem, Nat.reduceLT, Nat.reduceEqDiff, Nat.reduceAdd, Nat.reduceMul, Nat.reduceSub, Nat.reduceLeDiff, Int.reduceToNat, Int.reduceNeg, Int.reduceLT, Int.reduceLE, Int.reduceEq, reduceCtorEq, Int.natCast_zero, Int.natCast_one, Int.cast_ofNat_Int, Bool.not_not, false_eq_decide, true_eq_decide, hread0, hreadk, read_cons0, read_consk, astore_h0, astore_hk, hget0, hgetk, hset0, hsetk, hlen, hcat, Nat.add_assoc, Nat.add_zero, Nat.zero_add, List.length_append, and_true, true_and, AV.flat, gq0, get_app gq0, read_get gq0, read_app gq0, gq1, get_app gq1, read_get gq1, read_app gq1, gq2, get_app gq2, read_get gq2, read_app gq2, *, -hK, -hm, -hfa, -hw, -I, -hR, -gq3, -gq4, -hsr, -hz, -hsi, -hs0, -upA, -upB, -upC] | refine WC.call (upA _) ?_ | refine WC.call (upB _) ?_ | refine WC.call (upC _) ?_ | with_reducible refine IfB_dec (fun h => ?_) (fun h => ?_) | with_reducible refine Guard_dec (fun h => ?_) (fun h => ?_) | with_reducible refine Guard_ndec (fun h => ?_) (fun h => ?_) | with_reducible refine Guard_not (fun h => ?_) (fun h => ?_) | with_reducible refine IfB_ndec (fun h => ?_) (fun h => ?_) | with_reducible refine IfB_not (fun h => ?_) (fun h => ?_) | with_reducible refine Guard_split (fun h => ?_) (fun h => ?_) | with_reducible refine IfB_split (fun h => ?_) (fun h => ?_))
        clear upA upB upC
        have hb : (0 : Int) ≤ 1 ∧ (1 : Int) ≤ 140737488355328 := by omega
        have hbk := hR
        have hA0 := hA
        have o3 := s3
        have o4 := s4
        have o5 := s5
        have o6 := s6
        have o8 := s8
        have o9 := s9
        refine WX_loopS [3, 4, 5, 6, 8, 9, 10, 11] (fun q fr' H' => ∃ j : Nat, q = l.length - j ∧ j ≤ l.length ∧ fr'.get 13 = .int .i64 j ∧ H' = G ++ [⟨(s.addv ((comD c r i).add (sumT i (l.take j)))).cs, 0, .full⟩] ∧ A fr') l.length ⟨0, rfl, by omega, by simp only [go_sem, Nat.reduceLT, Nat.reduceEqDiff, Nat.reduceAdd, Nat.reduceMul, Nat.reduceSub, Nat.reduceLeDiff, Int.reduceToNat, Int.reduceNeg, Int.reduceLT, Int.reduceLE, Int.reduceEq, reduceCtorEq]; rfl, by rw [hz]; rfl, by (repeat (first | exact hs | refine hA _ _ _ (by decide) ?_))⟩ ?_
        clear hg hs hA s3 s4 s5 s6 s8 s9 hz
        rintro q fr2 H2 A2 R2 hA hs hg hR2 ⟨j, rfl, hj, f13, rfl, hAf⟩
        have s3 := hg 3 (by decide)
        have s4 := hg 4 (by decide)
        have s5 := hg 5 (by decide)
        have s6 := hg 6 (by decide)
        have s8 := hg 8 (by decide)
        have s9 := hg 9 (by decide)
        have s10 := hg 10 (by decide)
        have s11 := hg 11 (by decide)
        simp only [Fr.get_put, Fr.get_init, List.getD_cons_zero, List.getD_cons_succ, Nat.reduceEqDiff, if_true, if_false] at s3 s4 s5 s6 s8 s9 s10 s11
        rw [o3] at s3
        rw [o4] at s4
        rw [o5] at s5
        rw [o6] at s6
        rw [o8] at s8
        rw [o9] at s9
        rw [f10] at s10
        clear f10 o3 o4 o5 o6 o8 o9
        refine wx_sound hT _ ?_
        have hSr : (s.addv ((comD c r i).add (sumT i (l.take j)))).rng := addv_rng _ _ hsr (add_pos (comD_pos c r i) (sumT_pos _ _)).1
        by_cases hlj : j < l.length
        rotate_left
        · have i4 : ¬ (j : Int) < l.length := by omega
          rw [show j = l.length by omega, List.take_length]
          clear hR2 hSr
          have hfin : s.addv ((comD c r i).add (sumT i l)) = (moreL a.ts (cntD c r l))[i]'(by rw [moreL_len]; exact hlt) := by rw [moreL_at hlt, ← hsi]; rfl
          generalize s.addv ((comD c r i).add (sumT i l)) = S at *
          have I2 := I.keep (Keep.snoc none G (⟨S.cs, 0, .full⟩ : Blk))
          have hp : (G ++ [(⟨S.cs, 0, .full⟩ : Blk)])[G.length]? = some ⟨S.cs, 0, .full⟩ := get_last _ _
          generalize hG2 : (G ++ [(⟨S.cs, 0, .full⟩ : Blk)] : Heap) = G2 at *
          clear hG2
          have ga0 := I2.g0
          have ga4 := I2.g4
          have hv := I2.ow.one
          unfold Stat.cs at hp
          repeat' (first | simp only [go_sem, Nat.reduceLT, Nat.reduceEqDiff, Nat.reduceAdd, Nat.reduceMul, Nat.reduceSub, Nat.reduceLeDiff, Int.reduceToNat, Int.reduceNeg, Int.reduceLT, Int.reduceLE, Int.reduceEq, reduceCtorEq, Int.natCast_zero, Int.natCast_one, Int.cast_ofNat_Int, Bool.not_not, false_eq_decide, true_eq_decide, hread0, hreadk, read_cons0, read_consk, astore_h0, astore_hk, hget0, hgetk, hset0, hsetk, hlen, hcat, Nat.add_assoc, Nat.add_zero, Nat.zero_add, List.length_append, and_true, true_and, AV.flat, ga0, get_app ga0, read_get ga0, read_app ga0, ga4, get_app ga4, read_get ga4, read_app ga4, hp, get_app hp, read_get hp, read_app hp, hv, one_solid hv, one_cells hv, *, -hK, -hm, -hfa, -I, -I2, -hw, -hfin, -hbk, -hsi] | with_reducible refine IfB_dec (fun h => ?_) (fun h => ?_) | with_reducible refine Guard_dec (fun h => ?_) (fun h => ?_) | with_reducible refine Guard_ndec (fun h => ?_) (fun h => ?_) | with_reducible refine Guard_not (fun h => ?_) (fun h => ?_) | with_reducible refine IfB_ndec (fun h => ?_) (fun h => ?_) | with_reducible refine IfB_not (fun h => ?_) (fun h => ?_) | with_reducible refine Guard_split (fun h => ?_) (fun h => ?_) | with_reducible refine IfB_split (fun h => ?_) (fun h => ?_))
          refine append1_enc (E := statE) (m := H.length + 5) (x := S) I2.ow rfl se22 az47 td47 tk22 rfl rfl (by decide) (by rw [List.length_take, moreL_len]; simp only [statE]; omega) (by have := (List.getElem?_eq_some_iff.1 ga4).1; omega) ?_
          intro v4 H4 o4 k4 hn4
          have I3 := I2.app o4 k4
          have hv4 := o4.one
          have gb4 := k4.get ga4 (fun e => by have := I2.ow.ge e; omega)
          rw [hfin, ← List.take_succ_eq_append_getElem] at I3
          repeat' (first | simp only [go_sem, Nat.reduceLT, Nat.reduceEqDiff, Nat.reduceAdd, Nat.reduceMul, Nat.reduceSub, Nat.reduceLeDiff, Int.reduceToNat, Int.reduceNeg, Int.reduceLT, Int.reduceLE, Int.reduceEq, reduceCtorEq, Int.natCast_zero, Int.natCast_one, Int.cast_ofNat_Int, Bool.not_not, false_eq_decide, true_eq_decide, hread0, hreadk, read_cons0, read_consk, astore_h0, astore_hk, hget0, hgetk, hset0, hsetk, hlen, hcat, Nat.add_assoc, Nat.add_zero, Nat.zero_add, List.length_append, and_true, true_and, AV.flat, gb4, get_app gb4, read_get gb4, read_app gb4, astore_get gb4, astore_app gb4, get_set gb4, get_set_app gb4, read_set gb4, read_set_app gb4, astore_set gb4, astore_set_app gb4, List.set_set, hget0s, hgetks, hread0s, hreadks, List.length_set, hv4, one_solid hv4, one_cells hv4, *, -hK, -hm, -hfa, -I, -I2, -I3, -hw, -hfin, -hbk, -o4, -k4, -hn4, -ga0, -ga4, -hsi, -hp] | with_reducible refine IfB_dec (fun h => ?_) (fun h => ?_) | with_reducible refine Guard_dec (fun h => ?_) (fun h => ?_) | with_reducible refine Guard_ndec (fun h => ?_) (fun h => ?_) | with_reducible refine Guard_not (fun h => ?_) (fun h => ?_) | with_reducible refine IfB_ndec (fun h => ?_) (fun h => ?_) | with_reducible refine IfB_not (fun h => ?_) (fun h => ?_) | with_reducible refine Guard_split (fun h => ?_) (fun h => ?_) | with_reducible refine IfB_split (fun h => ?_) (fun h => ?_))
          exact hbk _ _ (by repeat (first | exact hAf | refine hA0 _ _ _ (by decide) ?_)) (a.ts.length - (i + 1)) (by omega) ⟨i + 1, _, rfl, by omega, by simp only [go_sem, Nat.reduceLT, Nat.reduceEqDiff, Nat.reduceAdd, Nat.reduceMul, Nat.reduceSub, Nat.reduceLeDiff, Int.reduceToNat, Int.reduceNeg, Int.reduceLT, Int.reduceLE, Int.reduceEq, reduceCtorEq], I3⟩
        have i4 : (j : Int) < l.length := by omega
        have e1 := at_enc (E := chgE) (T := T) (k := .i64) se33 hlj rfl
        have e3 := inc_id hlj hl
        obtain ⟨hx0, hx4⟩ := hfa l[j] (List.getElem_mem hlj)
        have hxw := hw l[j] (List.getElem_mem hlj)
        have ga0 := I.g0
        have hst : ∀ t, sumT t (l.take (j + 1)) = (sumT t (l.take j)).add (chgT t l[j]) := fun t => by rw [List.take_succ_eq_append_getElem hlj, sumT_snoc]
        have back : ∀ fr3, A2 fr3 → fr3.get 13 = .int .i64 ((j + 1 : Nat) : Int) → A fr3 → R2 fr3 (G ++ [⟨(s.addv ((comD c r i).add (sumT i (l.take (j + 1))))).cs, 0, .full⟩]) := fun fr3 ha g1 h3 => hR2 fr3 _ ha (l.length - (j + 1)) (by omega) ⟨j + 1, rfl, by omega, g1, rfl, h3⟩
        generalize l[j] = x at *
        obtain ⟨kd, tn, ik, iv, fl, du, un, ky, wy, to, pr⟩ := x
        simp only at hx0 hx4 hxw
        rw [chgE_cells] at e1
        simp only at e1
        by_cases ht2 : tn = (i : Int)
        rotate_left
        · rw [show s.addv ((comD c r i).add (sumT i (l.take (j + 1)))) = s.addv ((comD c r i).add (sumT i (l.take j))) by rw [hst, show chgT i ⟨kd, tn, ik, iv, fl, du, un, ky, wy, to, pr⟩ = stat0 by unfold chgT; rw [if_neg (by show ¬ tn = _; exact ht2)]]; simp [Stat.add, stat0]] at back
          clear hst
          repeat' (first | simp only [go_sem, Nat.reduceLT, Nat.reduceEqDiff, Nat.reduceAdd, Nat.reduceMul, Nat.reduceSub, Nat.reduceLeDiff, Int.reduceToNat, Int.reduceNeg, Int.reduceLT, Int.reduceLE, Int.reduceEq, reduceCtorEq, Int.natCast_zero, Int.natCast_one, Int.cast_ofNat_Int, Bool.not_not, false_eq_decide, true_eq_decide, hread0, hreadk, read_cons0, read_consk, astore_h0, astore_hk, hget0, hgetk, hset0, hsetk, hlen, hcat, Nat.add_assoc, Nat.add_zero, Nat.zero_add, List.length_append, and_true, true_and, AV.flat, ga0, get_app ga0, read_get ga0, read_app ga0, *, -hK, -hm, -hfa, -I, -back, -hSr, -hw, -hbk, -hR2] | with_reducible refine IfB_dec (fun h => ?_) (fun h => ?_) | with_reducible refine Guard_dec (fun h => ?_) (fun h => ?_) | with_reducible refine Guard_ndec (fun h => ?_) (fun h => ?_) | with_reducible refine Guard_not (fun h => ?_) (fun h => ?_) | with_reducible refine IfB_ndec (fun h => ?_) (fun h => ?_) | with_reducible refine IfB_not (fun h => ?_) (fun h => ?_) | with_reducible refine Guard_split (fun h => ?_) (fun h => ?_) | with_reducible refine IfB_split (fun h => ?_) (fun h => ?_))
          exact back _ (by (repeat (first | exact hs | refine hA _ _ _ (by decide) ?_))) (by simp only [go_sem, Nat.reduceLT, Nat.reduceEqDiff, Nat.reduceAdd, Nat.reduceMul, Nat.reduceSub, Nat.reduceLeDiff, Int.reduceToNat, Int.reduceNeg, Int.reduceLT, Int.reduceLE, Int.reduceEq, reduceCtorEq]) (by repeat (first | exact hAf | refine hA0 _ _ _ (by decide) ?_))
        subst ht2
        have hDk : ∀ {d : Stat}, chgD ⟨kd, (i : Int), ik, iv, fl, du, un, ky, wy, to, pr⟩ = d → s.addv ((comD c r i).add (sumT i (l.take (j + 1)))) = (s.addv ((comD c r i).add (sumT i (l.take j)))).addv d := fun {d} h => by
          rw [hst, show chgT i ⟨kd, (i : Int), ik, iv, fl, du, un, ky, wy, to, pr⟩ = d by unfold chgT; rw [if_pos rfl, h], addv_addv _ _ _ (h ▸ (chgD_pos _).1)]
          congr 1
          simp only [Stat.add, Stat.mk.injEq]; omega
        clear hst
        generalize hS : s.addv ((comD c r i).add (sumT i (l.take j))) = S at *
        by_cases k1 : kd = 1
        · subst k1
          rw [hDk (d := unitS 2 1) rfl, addv2 S hSr] at back
          clear hDk
          obtain ⟨S1, S2, S3, S4, S5, S6⟩ := S
          unfold Stat.cs at back ⊢
          simp only at back ⊢
          have up1 := fun J => refUp_spec S3 1 hSr.2.2.1 hb J
          clear hSr
          repeat' (first | simp only [go_sem, Nat.reduceLT, Nat.reduceEqDiff, Nat.reduceAdd, Nat.reduceMul, Nat.reduceSub, Nat.reduceLeDiff, Int.reduceToNat, Int.reduceNeg, Int.reduceLT, Int.reduceLE, Int.reduceEq, reduceCtorEq, Int.natCast_zero, Int.natCast_one, Int.cast_ofNat_Int, Bool.not_not, false_eq_decide, true_eq_decide, hread0, hreadk, read_cons0, read_consk, astore_h0, astore_hk, hget0, hgetk, hset0, hsetk, hlen, hcat, Nat.add_assoc, Nat.add_zero, Nat.zero_add, List.length_append, and_true, true_and, AV.flat, ga0, get_app ga0, read_get ga0, read_app ga0, *, -hK, -hm, -hfa, -I, -back, -up1, -hw, -hS, -hbk, -hR2] | refine WC.call (up1 _) ?_ | with_reducible refine IfB_dec (fun h => ?_) (fun h => ?_) | with_reducible refine Guard_dec (fun h => ?_) (fun h => ?_) | with_reducible refine Guard_ndec (fun h => ?_) (fun h => ?_) | with_reducible refine Guard_not (fun h => ?_) (fun h => ?_) | with_reducible refine IfB_ndec (fun h => ?_) (fun h => ?_) | with_reducible refine IfB_not (fun h => ?_) (fun h => ?_) | with_reducible refine Guard_split (fun h => ?_) (fun h => ?_) | with_reducible refine IfB_split (fun h => ?_) (fun h => ?_))
          exact back _ (by (repeat (first | exact hs | refine hA _ _ _ (by decide) ?_))) (by simp only [go_sem, Nat.reduceLT, Nat.reduceEqDiff, Nat.reduceAdd, Nat.reduceMul, Nat.reduceSub, Nat.reduceLeDiff, Int.reduceToNat, Int.reduceNeg, Int.reduceLT, Int.reduceLE, Int.reduceEq, reduceCtorEq]) (by repeat (first | exact hAf | refine hA0 _ _ _ (by decide) ?_))
        by_cases k2 : kd = 2
        · subst k2
          by_cases k3 : wy = 1
          · subst k3
            rw [hDk (d := unitS 3 1) rfl, addv3 S hSr] at back
            clear hDk
            obtain ⟨S1, S2, S3, S4, S5, S6⟩ := S
            unfold Stat.cs at back ⊢
            simp only at back ⊢
            have up1 := fun J => refUp_spec S4 1 hSr.2.2.2.1 hb J
            clear hSr
            repeat' (first | simp only [go_sem, Nat.reduceLT, Nat.reduceEqDiff, Nat.reduceAdd, Nat.reduceMul, Nat.reduceSub, Nat.reduceLeDiff, Int.reduceToNat, Int.reduceNeg, Int.reduceLT, Int.reduceLE, Int.reduceEq, reduceCtorEq, Int.natCast_zero, Int.natCast_one, Int.cast_ofNat_Int, Bool.not_not, false_eq_decide, true_eq_decide, hread0, hreadk, read_cons0, read_consk, astore_h0, astore_hk, hget0, hgetk, hset0, hsetk, hlen, hcat, Nat.add_assoc, Nat.add_zero, Nat.zero_add, List.length_append, and_true, true_and, AV.flat, ga0, get_app ga0, read_get ga0, read_app ga0, *, -hK, -hm, -hfa, -I, -back, -up1, -hw, -hS, -hbk, -hR2] | refine WC.call (up1 _) ?_ | with_reducible refine IfB_dec (fun h => ?_) (fun h => ?_) | with_reducible refine Guard_dec (fun h => ?_) (fun h => ?_) | with_reducible refine Guard_ndec (fun h => ?_) (fun h => ?_) | with_reducible refine Guard_not (fun h => ?_) (fun h => ?_) | with_reducible refine IfB_ndec (fun h => ?_) (fun h => ?_) | with_reducible refine IfB_not (fun h => ?_) (fun h => ?_) | with_reducible refine Guard_split (fun h => ?_) (fun h => ?_) | with_reducible refine IfB_split (fun h => ?_) (fun h => ?_))
            exact back _ (by (repeat (first | exact hs | refine hA _ _ _ (by decide) ?_))) (by simp only [go_sem, Nat.reduceLT, Nat.reduceEqDiff, Nat.reduceAdd, Nat.reduceMul, Nat.reduceSub, Nat.reduceLeDiff, Int.reduceToNat, Int.reduceNeg, Int.reduceLT, Int.reduceLE, Int.reduceEq, reduceCtorEq]) (by repeat (first | exact hAf | refine hA0 _ _ _ (by decide) ?_))
          · obtain rfl := (hxw rfl).resolve_left k3
            rw [hDk (d := unitS 4 1) rfl, addv4 S hSr] at back
            clear hDk
            obtain ⟨S1, S2, S3, S4, S5, S6⟩ := S
            unfold Stat.cs at back ⊢
            simp only at back ⊢
            have up1 := fun J => refUp_spec S5 1 hSr.2.2.2.2.1 hb J
            clear hSr
            repeat' (first | simp only [go_sem, Nat.reduceLT, Nat.reduceEqDiff, Nat.reduceAdd, Nat.reduceMul, Nat.reduceSub, Nat.reduceLeDiff, Int.reduceToNat, Int.reduceNeg, Int.reduceLT, Int.reduceLE, Int.reduceEq, reduceCtorEq, Int.natCast_zero, Int.natCast_one, Int.cast_ofNat_Int, Bool.not_not, false_eq_decide, true_eq_decide, hread0, hreadk, read_cons0, read_consk, astore_h0, astore_hk, hget0, hgetk, hset0, hsetk, hlen, hcat, Nat.add_assoc, Nat.add_zero, Nat.zero_add, List.length_append, and_true, true_and, AV.flat, ga0, get_app ga0, read_get ga0, read_app ga0, *, -hK, -hm, -hfa, -I, -back, -up1, -hw, -hS, -hbk, -hR2] | refine WC.call (up1 _) ?_ | with_reducible refine IfB_dec (fun h => ?_) (fun h => ?_) | with_reducible refine Guard_dec (fun h => ?_) (fun h => ?_) | with_reducible refine Guard_ndec (fun h => ?_) (fun h => ?_) | with_reducible refine Guard_not (fun h => ?_) (fun h => ?_) | with_reducible refine IfB_ndec (fun h => ?_) (fun h => ?_) | with_reducible refine IfB_not (fun h => ?_) (fun h => ?_) | with_reducible refine Guard_split (fun h => ?_) (fun h => ?_) | with_reducible refine IfB_split (fun h => ?_) (fun h => ?_))
            exact back _ (by (repeat (first | exact hs | refine hA _ _ _ (by decide) ?_))) (by simp only [go_sem, Nat.reduceLT, Nat.reduceEqDiff, Nat.reduceAdd, Nat.reduceMul, Nat.reduceSub, Nat.reduceLeDiff, Int.reduceToNat, Int.reduceNeg, Int.reduceLT, Int.reduceLE, Int.reduceEq, reduceCtorEq]) (by repeat (first | exact hAf | refine hA0 _ _ _ (by decide) ?_))
        rw [hDk (d := stat0) (by unfold chgD; rw [if_neg k1, if_neg (fun h => k2 h.1), if_neg k2]), addv_zero S hSr] at back
        clear hDk
        repeat' (first | simp only [go_sem, Nat.reduceLT, Nat.reduceEqDiff, Nat.reduceAdd, Nat.reduceMul, Nat.reduceSub, Nat.reduceLeDiff, Int.reduceToNat, Int.reduceNeg, Int.reduceLT, Int.reduceLE, Int.reduceEq, reduceCtorEq, Int.natCast_zero, Int.natCast_one, Int.cast_ofNat_Int, Bool.not_not, false_eq_decide, true_eq_decide, hread0, hreadk, read_cons0, read_consk, astore_h0, astore_hk, hget0, hgetk, hset0, hsetk, hlen, hcat, Nat.add_assoc, Nat.add_zero, Nat.zero_add, List.length_append, and_true, true_and, AV.flat, ga0, get_app ga0, read_get ga0, read_app ga0, *, -hK, -hm, -hfa, -I, -back, -hSr, -hw, -hbk, -hR2, -hS] | with_reducible refine IfB_dec (fun h => ?_) (fun h => ?_) | with_reducible refine Guard_dec (fun h => ?_) (fun h => ?_) | with_reducible refine Guard_ndec (fun h => ?_) (fun h => ?_) | with_reducible refine Guard_not (fun h => ?_) (fun h => ?_) | with_reducible refine IfB_ndec (fun h => ?_) (fun h => ?_) | with_reducible refine IfB_not (fun h => ?_) (fun h => ?_) | with_reducible refine Guard_split (fun h => ?_) (fun h => ?_) | with_reducible refine IfB_split (fun h => ?_) (fun h => ?_))
        exact back _ (by (repeat (first | exact hs | refine hA _ _ _ (by decide) ?_))) (by simp only [go_sem, Nat.reduceLT, Nat.reduceEqDiff, Nat.reduceAdd, Nat.reduceMul, Nat.reduceSub, Nat.reduceLeDiff, Int.reduceToNat, Int.reduceNeg, Int.reduceLT, Int.reduceLE, Int.reduceEq, reduceCtorEq]) (by repeat (first | exact hAf | refine hA0 _ _ _ (by decide) ?_))
  · have upB := True.intro
    have cz : ∀ {D : Stat}, cmdD c.kind c.keys.length r.kind r.its.length = D → s.addv ((comD c r i).add (sumT i (l.take 0))) = s.addv D := fun {D} h => by
      unfold comD cmdT; rw [if_pos ht, h]
      show s.addv (D.add stat0) = s.addv D
      congr 1; simp [Stat.add, stat0]
    by_cases hr : r.kind = 7 ∨ r.kind = 4 ∨ r.kind = 5
    · have hz := (cz (D := unitS 5 1) (by unfold cmdD; rw [if_neg kk1, if_neg kk1, if_pos hr]; simp [Stat.add, unitS, Stat.upd, stat0])).trans (addv5 s hsr _)
      clear cz
      clear hsi
      have hsi := hs0
      have hr3 : r.kind = 7 ∨ (¬ r.kind = 7 ∧ r.kind = 4) ∨ (¬ r.kind = 7 ∧ ¬ r.kind = 4 ∧ r.kind = 5) := by omega
      clear hr
      rcases hr3 with r7 | ⟨n7, r4⟩ | ⟨n7, n4, r5⟩
      all_goals
        repeat' (first | simp only [go_sem, Nat.reduceLT, Nat.reduceEqDiff, Nat.reduceAdd, Nat.reduceMul, Nat.reduceSub, Nat.reduceLeDiff, Int.reduceToNat, Int.reduceNeg, Int.reduceLT, Int.reduceLE, Int.reduceEq, reduceCtorEq, Int.natCast_zero, Int.natCast_one, Int.cast_ofNat_Int, Bool.not_not, false_eq_decide, true_eq_decide, hread0, hreadk, read_cons0, read_consk, astore_h0, astore_hk, hget0, hgetk, hset0, hsetk, hlen, hcat, Nat.add_assoc, Nat.add_zero, Nat.zero_add, List.length_append, and_true, true_and, AV.flat, gq0, get_app gq0, read_get gq0, read_app gq0, gq1, get_app gq1, read_get gq1, read_app gq1, gq2, get_app gq2, read_get gq2, read_app gq2, *, -hK, -hm, -hfa, -hw, -I, -hR, -gq3, -gq4, -hsr, -hz, -hsi, -hs0, -upA, -upB, -upC] | refine WC.call (upA _) ?_ | refine WC.call (upC _) ?_ | with_reducible refine IfB_dec (fun h => ?_) (fun h => ?_) | with_reducible refine Guard_dec (fun h => ?_) (fun h => ?_) | with_reducible refine Guard_ndec (fun h => ?_) (fun h => ?_) | with_reducible refine Guard_not (fun h => ?_) (fun h => ?_) | with_reducible refine IfB_ndec (fun h => ?_) (fun h => ?_) | with_reducible refine IfB_not (fun h => ?_) (fun h => ?_) | with_reducible refine Guard_split (fun h => ?_) (fun h => ?_) | with_reducible refine IfB_split (fun h => ?_) (fun h => ?_))
        clear upA upB upC
        have hb : (0 : Int) ≤ 1 ∧ (1 : Int) ≤ 140737488355328 := by omega
        have hbk := hR
        have hA0 := hA
        have o3 := s3
        have o4 := s4
        have o5 := s5
        have o6 := s6
        have o8 := s8
        have o9 := s9
        refine WX_loopS [3, 4, 5, 6, 8, 9, 10, 11] (fun q fr' H' => ∃ j : Nat, q = l.length - j ∧ j ≤ l.length ∧ fr'.get 13 = .int .i64 j ∧ H' = G ++ [⟨(s.addv ((comD c r i).add (sumT i (l.take j)))).cs, 0, .full⟩] ∧ A fr') l.length ⟨0, rfl, by omega, by simp only [go_sem, Nat.reduceLT, Nat.reduceEqDiff, Nat.reduceAdd, Nat.reduceMul, Nat.reduceSub, Nat.reduceLeDiff, Int.reduceToNat, Int.reduceNeg, Int.reduceLT, Int.reduceLE, Int.reduceEq, reduceCtorEq]; rfl, by rw [hz]; rfl, by (repeat (first | exact hs | refine hA _ _ _ (by decide) ?_))⟩ ?_
        clear hg hs hA s3 s4 s5 s6 s8 s9 hz
        rintro q fr2 H2 A2 R2 hA hs hg hR2 ⟨j, rfl, hj, f13, rfl, hAf⟩
        have s3 := hg 3 (by decide)
        have s4 := hg 4 (by decide)
        have s5 := hg 5 (by decide)
        have s6 := hg 6 (by decide)
        have s8 := hg 8 (by decide)
        have s9 := hg 9 (by decide)
        have s10 := hg 10 (by decide)
        have s11 := hg 11 (by decide)
        simp only [Fr.get_put, Fr.get_init, List.getD_cons_zero, List.getD_cons_succ, Nat.reduceEqDiff, if_true, if_false] at s3 s4 s5 s6 s8 s9 s10 s11
        rw [o3] at s3
        rw [o4] at s4
        rw [o5] at s5
        rw [o6] at s6
        rw [o8] at s8
        rw [o9] at s9
        rw [f10] at s10
        clear f10 o3 o4 o5 o6 o8 o9
        refine wx_sound hT _ ?_
        have hSr : (s.addv ((comD c r i).add (sumT i (l.take j)))).rng := addv_rng _ _ hsr (add_pos (comD_pos c r i) (sumT_pos _ _)).1
        by_cases hlj : j < l.length
        rotate_left
        · have i4 : ¬ (j : Int) < l.length := by omega
          rw [show j = l.length by omega, List.take_length]
          clear hR2 hSr
          have hfin : s.addv ((comD c r i).add (sumT i l)) = (moreL a.ts (cntD c r l))[i]'(by rw [moreL_len]; exact hlt) := by rw [moreL_at hlt, ← hsi]; rfl
          generalize s.addv ((comD c r i).add (sumT i l)) = S at *
          have I2 := I.keep (Keep.snoc none G (⟨S.cs, 0, .full⟩ : Blk))
          have hp : (G ++ [(⟨S.cs, 0, .full⟩ : Blk)])[G.length]? = some ⟨S.cs, 0, .full⟩ := get_last _ _
          generalize hG2 : (G ++ [(⟨S.cs, 0, .full⟩ : Blk)] : Heap) = G2 at *
          clear hG2
          have ga0 := I2.g0
          have ga4 := I2.g4
          have hv := I2.ow.one
          unfold Stat.cs at hp
          repeat' (first | simp only [go_sem, Nat.reduceLT, Nat.reduceEqDiff, Nat.reduceAdd, Nat.reduceMul, Nat.reduceSub, Nat.reduceLeDiff, Int.reduceToNat, Int.reduceNeg, Int.reduceLT, Int.reduceLE, Int.reduceEq, reduceCtorEq, Int.natCast_zero, Int.natCast_one, Int.cast_ofNat_Int, Bool.not_not, false_eq_decide, true_eq_decide, hread0, hreadk, read_cons0, read_consk, astore_h0, astore_hk, hget0, hgetk, hset0, hsetk, hlen, hcat, Nat.add_assoc, Nat.add_zero, Nat.zero_add, List.length_append, and_true, true_and, AV.flat, ga0, get_app ga0, read_get ga0, read_app ga0, ga4, get_app ga4, read_get ga4, read_app ga4, hp, get_app hp, read_get hp, read_app hp, hv, one_solid hv, one_cells hv, *, -hK, -hm, -hfa, -I, -I2, -hw, -hfin, -hbk, -hsi] | with_reducible refine IfB_dec (fun h => ?_) (fun h => ?_) | with_reducible refine Guard_dec (fun h => ?_) (fun h => ?_) | with_reducible refine Guard_ndec (fun h => ?_) (fun h => ?_) | with_reducible refine Guard_not (fun h => ?_) (fun h => ?_) | with_reducible refine IfB_ndec (fun h => ?_) (fun h => ?_) | with_reducible refine IfB_not (fun h => ?_) (fun h => ?_) | with_reducible refine Guard_split (fun h => ?_) (fun h => ?_) | with_reducible refine IfB_split (fun h => ?_) (fun h => ?_))
          refine append1_enc (E := statE) (m := H.length + 5) (x := S) I2.ow rfl se22 az47 td47 tk22 rfl rfl (by decide) (by rw [List.length_take, moreL_len]; simp only [statE]; omega) (by have := (List.getElem?_eq_some_iff.1 ga4).1; omega) ?_
          intro v4 H4 o4 k4 hn4
          have I3 := I2.app o4 k4
          have hv4 := o4.one
          have gb4 := k4.get ga4 (fun e => by have := I2.ow.ge e; omega)
          rw [hfin, ← List.take_succ_eq_append_getElem] at I3
          repeat' (first | simp only [go_sem, Nat.reduceLT, Nat.reduceEqDiff, Nat.reduceAdd, Nat.reduceMul, Nat.reduceSub, Nat.reduceLeDiff, Int.reduceToNat, Int.reduceNeg, Int.reduceLT, Int.reduceLE, Int.reduceEq, reduceCtorEq, Int.natCast_zero, Int.natCast_one, Int.cast_ofNat_Int, Bool.not_not, false_eq_decide, true_eq_decide, hread0, hreadk, read_cons0, read_consk, astore_h0, astore_hk, hget0, hgetk, hset0, hsetk, hlen, hcat, Nat.add_assoc, Nat.add_zero, Nat.zero_add, List.length_append, and_true, true_and, AV.flat, gb4, get_app gb4, read_get gb4, read_app gb4, astore_get gb4, astore_app gb4, get_set gb4, get_set_app gb4, read_set gb4, read_set_app gb4, astore_set gb4, astore_set_app gb4, List.set_set, hget0s, hgetks, hread0s, hreadks, List.length_set, hv4, one_solid hv4, one_cells hv4, *, -hK, -hm, -hfa, -I, -I2, -I3, -hw, -hfin, -hbk, -o4, -k4, -hn4, -ga0, -ga4, -hsi, -hp] | with_reducible refine IfB_dec (fun h => ?_) (fun h => ?_) | with_reducible refine Guard_dec (fun h => ?_) (fun h => ?_) | with_reducible refine Guard_ndec (fun h => ?_) (fun h => ?_) | with_reducible refine Guard_not (fun h => ?_) (fun h => ?_) | with_reducible refine IfB_ndec (fun h => ?_) (fun h => ?_) | with_reducible refine IfB_not (fun h => ?_) (fun h => ?_) | with_reducible refine Guard_split (fun h => ?_) (fun h => ?_) | with_reducible refine IfB_split (fun h => ?_) (fun h => ?_))
          exact hbk _ _ (by repeat (first | exact hAf | refine hA0 _ _ _ (by decide) ?_)) (a.ts.length - (i + 1)) (by omega) ⟨i + 1, _, rfl, by omega, by simp only [go_sem, Nat.reduceLT, Nat.reduceEqDiff, Nat.reduceAdd, Nat.reduceMul, Nat.reduceSub, Nat.reduceLeDiff, Int.reduceToNat, Int.reduceNeg, Int.reduceLT, Int.reduceLE, Int.reduceEq, reduceCtorEq], I3⟩
        have i4 : (j : Int) < l.length := by omega
        have e1 := at_enc (E := chgE) (T := T) (k := .i64) se33 hlj rfl
        have e3 := inc_id hlj hl
        obtain ⟨hx0, hx4⟩ := hfa l[j] (List.getElem_mem hlj)
        have hxw := hw l[j] (List.getElem_mem hlj)
        have ga0 := I.g0
        have hst : ∀ t, sumT t (l.take (j + 1)) = (sumT t (l.take j)).add (chgT t l[j]) := fun t => by rw [List.take_succ_eq_append_getElem hlj, sumT_snoc]
        have back : ∀ fr3, A2 fr3 → fr3.get 13 = .int .i64 ((j + 1 : Nat) : Int) → A fr3 → R2 fr3 (G ++ [⟨(s.addv ((comD c r i).add (sumT i (l.take (j + 1))))).cs, 0, .full⟩]) := fun fr3 ha g1 h3 => hR2 fr3 _ ha (l.length - (j + 1)) (by omega) ⟨j + 1, rfl, by omega, g1, rfl, h3⟩
        generalize l[j] = x at *
        obtain ⟨kd, tn, ik, iv, fl, du, un, ky, wy, to, pr⟩ := x
        simp only at hx0 hx4 hxw
        rw [chgE_cells] at e1
        simp only at e1
        by_cases ht2 : tn = (i : Int)
        rotate_left
        · rw [show s.addv ((comD c r i).add (sumT i (l.take (j + 1)))) = s.addv ((comD c r i).add (sumT i (l.take j))) by rw [hst, show chgT i ⟨kd, tn, ik, iv, fl, du, un, ky, wy, to, pr⟩ = stat0 by unfold chgT; rw [if_neg (by show ¬ tn = _; exact ht2)]]; simp [Stat.add, stat0]] at back
          clear hst
          repeat' (first | simp only [go_sem, Nat.reduceLT, Nat.reduceEqDiff, Nat.reduceAdd, Nat.reduceMul, Nat.reduceSub, Nat.reduceLeDiff, Int.reduceToNat, Int.reduceNeg, Int.reduceLT, Int.reduceLE, Int.reduceEq, reduceCtorEq, Int.natCast_zero, Int.natCast_one, Int.cast_ofNat_Int, Bool.not_not, false_eq_decide, true_eq_decide, hread0, hreadk, read_cons0, read_consk, astore_h0, astore_hk, hget0, hgetk, hset0, hsetk, hlen, hcat, Nat.add_assoc, Nat.add_zero, Nat.zero_add, List.length_append, and_true, true_and, AV.flat, ga0, get_app ga0, read_get ga0, read_app ga0, *, -hK, -hm, -hfa, -I, -back, -hSr, -hw, -hbk, -hR2] | with_reducible refine IfB_dec (fun h => ?_) (fun h => ?_) | with_reducible refine Guard_dec (fun h => ?_) (fun h => ?_) | with_reducible refine Guard_ndec (fun h => ?_) (fun h => ?_) | with_reducible refine Guard_not (fun h => ?_) (fun h => ?_) | with_reducible refine IfB_ndec (fun h => ?_) (fun h => ?_) | with_reducible refine IfB_not (fun h => ?_) (fun h => ?_) | with_reducible refine Guard_split (fun h => ?_) (fun h => ?_) | with_reducible refine IfB_split (fun h => ?_) (fun h => ?_))
          exact back _ (by (repeat (first | exact hs | refine hA _ _ _ (by decide) ?_))) (by simp only [go_sem, Nat.reduceLT, Nat.reduceEqDiff, Nat.reduceAdd, Nat.reduceMul, Nat.reduceSub, Nat.reduceLeDiff, Int.reduceToNat, Int.reduceNeg, Int.reduceLT, Int.reduceLE, Int.reduceEq, reduceCtorEq]) (by repeat (first | exact hAf | refine hA0 _ _ _ (by decide) ?_))
        subst ht2
        have hDk : ∀ {d : Stat}, chgD ⟨kd, (i : Int), ik, iv, fl, du, un, ky, wy, to, pr⟩ = d → s.addv ((comD c r i).add (sumT i (l.take (j + 1)))) = (s.addv ((comD c r i).add (sumT i (l.take j)))).addv d := fun {d} h => by
          rw [hst, show chgT i ⟨kd, (i : Int), ik, iv, fl, du, un, ky, wy, to, pr⟩ = d by unfold chgT; rw [if_pos rfl, h], addv_addv _ _ _ (h ▸ (chgD_pos _).1)]
          congr 1
          simp only [Stat.add, Stat.mk.injEq]; omega
        clear hst
        generalize hS : s.addv ((comD c r i).add (sumT i (l.take j))) = S at *
        by_cases k1 : kd = 1
        · subst k1
          rw [hDk (d := unitS 2 1) rfl, addv2 S hSr] at back
          clear hDk
          obtain ⟨S1, S2, S3, S4, S5, S6⟩ := S
          unfold Stat.cs at back ⊢
          simp only at back ⊢
          have up1 := fun J => refUp_spec S3 1 hSr.2.2.1 hb J
          clear hSr
          repeat' (first | simp only [go_sem, Nat.reduceLT, Nat.reduceEqDiff, Nat.reduceAdd, Nat.reduceMul, Nat.reduceSub, Nat.reduceLeDiff, Int.reduceToNat, Int.reduceNeg, Int.reduceLT, Int.reduceLE, Int.reduceEq, reduceCtorEq, Int.natCast_zero, Int.natCast_one, Int.cast_ofNat_Int, Bool.not_not, false_eq_decide, true_eq_decide, hread0, hreadk, read_cons0, read_consk, astore_h0, astore_hk, hget0, hgetk, hset0, hsetk, hlen, hcat, Nat.add_assoc, Nat.add_zero, Nat.zero_add, List.length_append, and_true, true_and, AV.flat, ga0, get_app ga0, read_get ga0, read_app ga0, *, -hK, -hm, -hfa, -I, -back, -up1, -hw, -hS, -hbk, -hR2] | refine WC.call (up1 _) ?_ | with_reducible refine IfB_dec (fun h => ?_) (fun h => ?_) | with_reducible refine Guard_dec (fun h => ?_) (fun h => ?_) | with_reducible refine Guard_ndec (fun h => ?_) (fun h => ?_) | with_reducible refine Guard_not (fun h => ?_) (fun h => ?_) | with_reducible refine IfB_ndec (fun h => ?_) (fun h => ?_) | with_reducible refine IfB_not (fun h => ?_) (fun h => ?_) | with_reducible refine Guard_split (fun h => ?_) (fun h => ?_) | with_reducible refine IfB_split (fun h => ?_) (fun h => ?_))
          exact back _ (by (repeat (first | exact hs | refine hA _ _ _ (by decide) ?_))) (by simp only [go_sem, Nat.reduceLT, Nat.reduceEqDiff, Nat.reduceAdd, Nat.reduceMul, Nat.reduceSub, Nat.reduceLeDiff, Int.reduceToNat, Int.reduceNeg, Int.reduceLT, Int.reduceLE, Int.reduceEq, reduceCtorEq]) (by repeat (first | exact hAf | refine hA0 _ _ _ (by decide) ?_))
        by_cases k2 : kd = 2
        · subst k2
          by_cases k3 : wy = 1
          · subst k3
            rw [hDk (d := unitS 3 1) rfl, addv3 S hSr] at back
            clear hDk
            obtain ⟨S1, S2, S3, S4, S5, S6⟩ := S
            unfold Stat.cs at back ⊢
            simp only at back ⊢
            have up1 := fun J => refUp_spec S4 1 hSr.2.2.2.1 hb J
            clear hSr
            repeat' (first | simp only [go_sem, Nat.reduceLT, Nat.reduceEqDiff, Nat.reduceAdd, Nat.reduceMul, Nat.reduceSub, Nat.reduceLeDiff, Int.reduceToNat, Int.reduceNeg, Int.reduceLT, Int.reduceLE, Int.reduceEq, reduceCtorEq, Int.natCast_zero, Int.natCast_one, Int.cast_ofNat_Int, Bool.not_not, false_eq_decide, true_eq_decide, hread0, hreadk, read_cons0, read_consk, astore_h0, astore_hk, hget0, hgetk, hset0, hsetk, hlen, hcat, Nat.add_assoc, Nat.add_zero, Nat.zero_add, List.length_append, and_true, true_and, AV.flat, ga0, get_app ga0, read_get ga0, read_app ga0, *, -hK, -hm, -hfa, -I, -back, -up1, -hw, -hS, -hbk, -hR2] | refine WC.call (up1 _) ?_ | with_reducible refine IfB_dec (fun h => ?_) (fun h => ?_) | with_reducible refine Guard_dec (fun h => ?_) (fun h => ?_) | with_reducible refine Guard_ndec (fun h => ?_) (fun h => ?_) | with_reducible refine Guard_not (fun h => ?_) (fun h => ?_) | with_reducible refine IfB_ndec (fun h => ?_) (fun h => ?_) | with_reducible refine IfB_not (fun h => ?_) (fun h => ?_) | with_reducible refine Guard_split (fun h => ?_) (fun h => ?_) | with_reducible refine IfB_split (fun h => ?_) (fun h => ?_))
            exact back _ (by (repeat (first | exact hs | refine hA _ _ _ (by decide) ?_))) (by simp only [go_sem, Nat.reduceLT, Nat.reduceEqDiff, Nat.reduceAdd, Nat.reduceMul, Nat.reduceSub, Nat.reduceLeDiff, Int.reduceToNat, Int.reduceNeg, Int.reduceLT, Int.reduceLE, Int.reduceEq, reduceCtorEq]) (by repeat (first | exact hAf | refine hA0 _ _ _ (by decide) ?_))
          · obtain rfl := (hxw rfl).resolve_left k3
            rw [hDk (d := unitS 4 1) rfl, addv4 S hSr] at back
            clear hDk
            obtain ⟨S1, S2, S3, S4, S5, S6⟩ := S
            unfold Stat.cs at back ⊢
            simp only at back ⊢
            have up1 := fun J => refUp_spec S5 1 hSr.2.2.2.2.1 hb J
            clear hSr
            repeat' (first | simp only [go_sem, Nat.reduceLT, Nat.reduceEqDiff, Nat.reduceAdd, Nat.reduceMul, Nat.reduceSub, Nat.reduceLeDiff, Int.reduceToNat, Int.reduceNeg, Int.reduceLT, Int.reduceLE, Int.reduceEq, reduceCtorEq, Int.natCast_zero, Int.natCast_one, Int.cast_ofNat_Int, Bool.not_not, false_eq_decide, true_eq_decide, hread0, hreadk, read_cons0, read_consk, astore_h0, astore_hk, hget0, hgetk, hset0, hsetk, hlen, hcat, Nat.add_assoc, Nat.add_zero, Nat.zero_add, List.length_append, and_true, true_and, AV.flat, ga0, get_app ga0, read_get ga0, read_app ga0, *, -hK, -hm, -hfa, -I, -back, -up1, -hw, -hS, -hbk, -hR2] | refine WC.call (up1 _) ?_ | with_reducible refine IfB_dec (fun h => ?_) (fun h => ?_) | with_reducible refine Guard_dec (fun h => ?_) (fun h => ?_) | with_reducible refine Guard_ndec (fun h => ?_) (fun h => ?_) | with_reducible refine Guard_not (fun h => ?_) (fun h => ?_) | with_reducible refine IfB_ndec (fun h => ?_) (fun h => ?_) | with_reducible refine IfB_not (fun h => ?_) (fun h => ?_) | with_reducible refine Guard_split (fun h => ?_) (fun h => ?_) | with_reducible refine IfB_split (fun h => ?_) (fun h => ?_))
            exact back _ (by (repeat (first | exact hs | refine hA _ _ _ (by decide) ?_))) (by simp only [go_sem, Nat.reduceLT, Nat.reduceEqDiff, Nat.reduceAdd, Nat.reduceMul, Nat.reduceSub, Nat.reduceLeDiff, Int.reduceToNat, Int.reduceNeg, Int.reduceLT, Int.reduceLE, Int.reduceEq, reduceCtorEq]) (by repeat (first | exact hAf | refine hA0 _ _ _ (by decide) ?_))
        rw [hDk (d := stat0) (by unfold chgD; rw [if_neg k1, if_neg (fun h => k2 h.1), if_neg k2]), addv_zero S hSr] at back
        clear hDk
        repeat' (first | simp only [go_sem, Nat.reduceLT, Nat.reduceEqDiff, Nat.reduceAdd, Nat.reduceMul, Nat.reduceSub, Nat.reduceLeDiff, Int.reduceToNat, Int.reduceNeg, Int.reduceLT, Int.reduceLE, Int.reduceEq, reduceCtorEq, Int.natCast_zero, Int.natCast_one, Int.cast_ofNat_Int, Bool.not_not, false_eq_decide, true_eq_decide, hread0, hreadk, read_cons0, read_consk, astore_h0, astore_hk, hget0, hgetk, hset0, hsetk, hlen, hcat, Nat.add_assoc, Nat.add_zero, Nat.zero_add, List.length_append, and_true, true_and, AV.flat, ga0, get_app ga0, read_get ga0, read_app ga0, *, -hK, -hm, -hfa, -I, -back, -hSr, -hw, -hbk, -hR2, -hS] | with_reducible refine IfB_dec (fun h => ?_) (fun h => ?_) | with_reducible refine Guard_dec (fun h => ?_) (fun h => ?_) | with_reducible refine Guard_ndec (fun h => ?_) (fun h => ?_) | with_reducible refine Guard_not (fun h => ?_) (fun h => ?_) | with_reducible refine IfB_ndec (fun h => ?_) (fun h => ?_) | with_reducible refine IfB_not (fun h => ?_) (fun h => ?_) | with_reducible refine Guard_split (fun h => ?_) (fun h => ?_) | with_reducible refine IfB_split (fun h => ?_) (fun h => ?_))
        exact back _ (by (repeat (first | exact hs | refine hA _ _ _ (by decide) ?_))) (by simp only [go_sem, Nat.reduceLT, Nat.reduceEqDiff, Nat.reduceAdd, Nat.reduceMul, Nat.reduceSub, Nat.reduceLeDiff, Int.reduceToNat, Int.reduceNeg, Int.reduceLT, Int.reduceLE, Int.reduceEq, reduceCtorEq]) (by repeat (first | exact hAf | refine hA0 _ _ _ (by decide) ?_))
    · have hz := (cz (D := stat0) (by unfold cmdD; rw [if_neg kk1, if_neg kk1, if_neg hr]; simp [Stat.add, unitS, Stat.upd, stat0])).trans (addv_zero s hsr)
      clear cz
      clear hsi
      have hsi := hs0
      have n7 : ¬ r.kind = 7 := fun h => hr (.inl h)
      have n4 : ¬ r.kind = 4 := fun h => hr (.inr (.inl h))
      have n5 : ¬ r.kind = 5 := fun h => hr (.inr (.inr h))
      clear hr
      repeat' (first | simp only [go_sem, Nat.reduceLT, Nat.reduceEqDiff, Nat.reduceAdd, Nat.reduceMul, Nat.reduceSub, Nat.reduceLeDiff, Int.reduceToNat, Int.reduceNeg, Int.reduceLT, Int.reduceLE, Int.reduceEq, reduceCtorEq, Int.natCast_zero, Int.natCast_one, Int.cast_ofNat_Int, Bool.not_not, false_eq_decide, true_eq_decide, hread0, hreadk, read_cons0, read_consk, astore_h0, astore_hk, hget0, hgetk, hset0, hsetk, hlen, hcat, Nat.add_assoc, Nat.add_zero, Nat.zero_add, List.length_append, and_true, true_and, AV.flat, gq0, get_app gq0, read_get gq0, read_app gq0, gq1, get_app gq1, read_get gq1, read_app gq1, gq2, get_app gq2, read_get gq2, read_app gq2, *, -hK, -hm, -hfa, -hw, -I, -hR, -gq3, -gq4, -hsr, -hz, -hsi, -hs0, -upA, -upB, -upC] | refine WC.call (upA _) ?_ | refine WC.call (upC _) ?_ | with_reducible refine IfB_dec (fun h => ?_) (fun h => ?_) | with_reducible refine Guard_dec (fun h => ?_) (fun h => ?_) | with_reducible refine Guard_ndec (fun h => ?_) (fun h => ?_) | with_reducible refine Guard_not (fun h => ?_) (fun h => ?_) | with_reducible refine IfB_ndec (fun h => ?_) (fun h => ?_) | with_reducible refine IfB_not (fun h => ?_) (fun h => ?_) | with_reducible refine Guard_split (fun h => ?_) (fun h => ?_) | with_reducible refine IfB_split (fun h => ?_) (fun h => ?_))
      clear upA upB upC
      have hb : (0 : Int) ≤ 1 ∧ (1 : Int) ≤ 140737488355328 := by omega
      have hbk := hR
      have hA0 := hA
      have o3 := s3
      have o4 := s4
      have o5 := s5
      have o6 := s6
      have o8 := s8
      have o9 := s9
      refine WX_loopS [3, 4, 5, 6, 8, 9, 10, 11] (fun q fr' H' => ∃ j : Nat, q = l.length - j ∧ j ≤ l.length ∧ fr'.get 13 = .int .i64 j ∧ H' = G ++ [⟨(s.addv ((comD c r i).add (sumT i (l.take j)))).cs, 0, .full⟩] ∧ A fr') l.length ⟨0, rfl, by omega, by simp only [go_sem, Nat.reduceLT, Nat.reduceEqDiff, Nat.reduceAdd, Nat.reduceMul, Nat.reduceSub, Nat.reduceLeDiff, Int.reduceToNat, Int.reduceNeg, Int.reduceLT, Int.reduceLE, Int.reduceEq, reduceCtorEq]; rfl, by rw [hz]; rfl, by (repeat (first | exact hs | refine hA _ _ _ (by decide) ?_))⟩ ?_
      clear hg hs hA s3 s4 s5 s6 s8 s9 hz
      rintro q fr2 H2 A2 R2 hA hs hg hR2 ⟨j, rfl, hj, f13, rfl, hAf⟩
      have s3 := hg 3 (by decide)
      have s4 := hg 4 (by decide)
      have s5 := hg 5 (by decide)
      have s6 := hg 6 (by decide)
      have s8 := hg 8 (by decide)
      have s9 := hg 9 (by decide)
      have s10 := hg 10 (by decide)
      have s11 := hg 11 (by decide)
      simp only [Fr.get_put, Fr.get_init, List.getD_cons_zero, List.getD_cons_succ, Nat.reduceEqDiff, if_true, if_false] at s3 s4 s5 s6 s8 s9 s10 s11
      rw [o3] at s3
      rw [o4] at s4
      rw [o5] at s5
      rw [o6] at s6
      rw [o8] at s8
      rw [o9] at s9
      rw [f10] at s10
      clear f10 o3 o4 o5 o6 o8 o9
      refine wx_sound hT _ ?_
      have hSr : (s.addv ((comD c r i).add (sumT i (l.take j)))).rng := addv_rng _ _ hsr (add_pos (comD_pos c r i) (sumT_pos _ _)).1
      by_cases hlj : j < l.length
      rotate_left
      · have i4 : ¬ (j : Int) < l.length := by omega
        rw [show j = l.length by omega, List.take_length]
        clear hR2 hSr
        have hfin : s.addv ((comD c r i).add (sumT i l)) = (moreL a.ts (cntD c r l))[i]'(by rw [moreL_len]; exact hlt) := by rw [moreL_at hlt, ← hsi]; rfl
        generalize s.addv ((comD c r i).add (sumT i l)) = S at *
        have I2 := I.keep (Keep.snoc none G (⟨S.cs, 0, .full⟩ : Blk))
        have hp : (G ++ [(⟨S.cs, 0, .full⟩ : Blk)])[G.length]? = some ⟨S.cs, 0, .full⟩ := get_last _ _
        generalize hG2 : (G ++ [(⟨S.cs, 0, .full⟩ : Blk)] : Heap) = G2 at *
        clear hG2
        have ga0 := I2.g0
        have ga4 := I2.g4
        have hv := I2.ow.one
        unfold Stat.cs at hp
        repeat' (first | simp only [go_sem, Nat.reduceLT, Nat.reduceEqDiff, Nat.reduceAdd, Nat.reduceMul, Nat.reduceSub, Nat.reduceLeDiff, Int.reduceToNat, Int.reduceNeg, Int.reduceLT, Int.reduceLE, Int.reduceEq, reduceCtorEq, Int.natCast_zero, Int.natCast_one, Int.cast_ofNat_Int, Bool.not_not, false_eq_decide, true_eq_decide, hread0, hreadk, read_cons0, read_consk, astore_h0, astore_hk, hget0, hgetk, hset0, hsetk, hlen, hcat, Nat.add_assoc, Nat.add_zero, Nat.zero_add, List.length_append, and_true, true_and, AV.flat, ga0, get_app ga0, read_get ga0, read_app ga0, ga4, get_app ga4, read_get ga4, read_app ga4, hp, get_app hp, read_get hp, read_app hp, hv, one_solid hv, one_cells hv, *, -hK, -hm, -hfa, -I, -I2, -hw, -hfin, -hbk, -hsi] | with_reducible refine IfB_dec (fun h => ?_) (fun h => ?_) | with_reducible refine Guard_dec (fun h => ?_) (fun h => ?_) | with_reducible refine Guard_ndec (fun h => ?_) (fun h => ?_) | with_reducible refine Guard_not (fun h => ?_) (fun h => ?_) | with_reducible refine IfB_ndec (fun h => ?_) (fun h => ?_) | with_reducible refine IfB_not (fun h => ?_) (fun h => ?_) | with_reducible refine Guard_split (fun h => ?_) (fun h => ?_) | with_reducible refine IfB_split (fun h => ?_) (fun h => ?_))
        refine append1_enc (E := statE) (m := H.length + 5) (x := S) I2.ow rfl se22 az47 td47 tk22 rfl rfl (by decide) (by rw [List.length_take, moreL_len]; simp only [statE]; omega) (by have := (List.getElem?_eq_some_iff.1 ga4).1; omega) ?_
        intro v4 H4 o4 k4 hn4
        have I3 := I2.app o4 k4
        have hv4 := o4.one
        have gb4 := k4.get ga4 (fun e => by have := I2.ow.ge e; omega)
        rw [hfin, ← List.take_succ_eq_append_getElem] at I3
        repeat' (first | simp only [go_sem, Nat.reduceLT, Nat.reduceEqDiff, Nat.reduceAdd, Nat.reduceMul, Nat.reduceSub, Nat.reduceLeDiff, Int.reduceToNat, Int.reduceNeg, Int.reduceLT, Int.reduceLE, Int.reduceEq, reduceCtorEq, Int.natCast_zero, Int.natCast_one, Int.cast_ofNat_Int, Bool.not_not, false_eq_decide, true_eq_decide, hread0, hreadk, read_cons0, read_consk, astore_h0, astore_hk, hget0, hgetk, hset0, hsetk, hlen, hcat, Nat.add_assoc, Nat.add_zero, Nat.zero_add, List.length_append, and_true, true_and, AV.flat, gb4, get_app gb4, read_get gb4, read_app gb4, astore_get gb4, astore_app gb4, get_set gb4, get_set_app gb4, read_set gb4, read_set_app gb4, astore_set gb4, astore_set_app gb4, List.set_set, hget0s, hgetks, hread0s, hreadks, List.length_set, hv4, one_solid hv4, one_cells hv4, *, -hK, -hm, -hfa, -I, -I2, -I3, -hw, -hfin, -hbk, -o4, -k4, -hn4, -ga0, -ga4, -hsi, -hp] | with_reducible refine IfB_dec (fun h => ?_) (fun h => ?_) | with_reducible refine Guard_dec (fun h => ?_) (fun h => ?_) | with_reducible refine Guard_ndec (fun h => ?_) (fun h => ?_) | with_reducible refine Guard_not (fun h => ?_) (fun h => ?_) | with_reducible refine IfB_ndec (fun h => ?_) (fun h => ?_) | with_reducible refine IfB_not (fun h => ?_) (fun h => ?_) | with_reducible refine Guard_split (fun h => ?_) (fun h => ?_) | with_reducible refine IfB_split (fun h => ?_) (fun h => ?_))
        exact hbk _ _ (by repeat (first | exact hAf | refine hA0 _ _ _ (by decide) ?_)) (a.ts.length - (i + 1)) (by omega) ⟨i + 1, _, rfl, by omega, by simp only [go_sem, Nat.reduceLT, Nat.reduceEqDiff, Nat.reduceAdd, Nat.reduceMul, Nat.reduceSub, Nat.reduceLeDiff, Int.reduceToNat, Int.reduceNeg, Int.reduceLT, Int.reduceLE, Int.reduceEq, reduceCtorEq], I3⟩
      have i4 : (j : Int) < l.length := by omega
      have e1 := at_enc (E := chgE) (T := T) (k := .i64) se33 hlj rfl
      have e3 := inc_id hlj hl
      obtain ⟨hx0, hx4⟩ := hfa l[j] (List.getElem_mem hlj)
      have hxw := hw l[j] (List.getElem_mem hlj)
      have ga0 := I.g0
      have hst : ∀ t, sumT t (l.take (j + 1)) = (sumT t (l.take j)).add (chgT t l[j]) := fun t => by rw [List.take_succ_eq_append_getElem hlj, sumT_snoc]
      have back : ∀ fr3, A2 fr3 → fr3.get 13 = .int .i64 ((j + 1 : Nat) : Int) → A fr3 → R2 fr3 (G ++ [⟨(s.addv ((comD c r i).add (sumT i (l.take (j + 1))))).cs, 0, .full⟩]) := fun fr3 ha g1 h3 => hR2 fr3 _ ha (l.length - (j + 1)) (by omega) ⟨j + 1, rfl, by omega, g1, rfl, h3⟩
      generalize l[j] = x at *
      obtain ⟨kd, tn, ik, iv, fl, du, un, ky, wy, to, pr⟩ := x
      simp only at hx0 hx4 hxw
      rw [chgE_cells] at e1
      simp only at e1
      by_cases ht2 : tn = (i : Int)
      rotate_left
      · rw [show s.addv ((comD c r i).add (sumT i (l.take (j + 1)))) = s.addv ((comD c r i).add (sumT i (l.take j))) by rw [hst, show chgT i ⟨kd, tn, ik, iv, fl, du, un, ky, wy, to, pr⟩ = stat0 by unfold chgT; rw [if_neg (by show ¬ tn = _; exact ht2)]]; simp [Stat.add, stat0]] at back
        clear hst
        repeat' (first | simp only [go_sem, Nat.reduceLT, Nat.reduceEqDiff, Nat.reduceAdd, Nat.reduceMul, Nat.reduceSub, Nat.reduceLeDiff, Int.reduceToNat, Int.reduceNeg, Int.reduceLT, Int.reduceLE, Int.reduceEq, reduceCtorEq, Int.natCast_zero, Int.natCast_one, Int.cast_ofNat_Int, Bool.not_not, false_eq_decide, true_eq_decide, hread0, hreadk, read_cons0, read_consk, astore_h0, astore_hk, hget0, hgetk, hset0, hsetk, hlen, hcat, Nat.add_assoc, Nat.add_zero, Nat.zero_add, List.length_append, and_true, true_and, AV.flat, ga0, get_app ga0, read_get ga0, read_app ga0, *, -hK, -hm, -hfa, -I, -back, -hSr, -hw, -hbk, -hR2] | with_reducible refine IfB_dec (fun h => ?_) (fun h => ?_) | with_reducible refine Guard_dec (fun h => ?_) (fun h => ?_) | with_reducible refine Guard_ndec (fun h => ?_) (fun h => ?_) | with_reducible refine Guard_not (fun h => ?_) (fun h => ?_) | with_reducible refine IfB_ndec (fun h => ?_) (fun h => ?_) | with_reducible refine IfB_not (fun h => ?_) (fun h => ?_) | with_reducible refine Guard_split (fun h => ?_) (fun h => ?_) | with_reducible refine IfB_split (fun h => ?_) (fun h => ?_))
        exact back _ (by (repeat (first | exact hs | refine hA _ _ _ (by decide) ?_))) (by simp only [go_sem, Nat.reduceLT, Nat.reduceEqDiff, Nat.reduceAdd, Nat.reduceMul, Nat.reduceSub, Nat.reduceLeDiff, Int.reduceToNat, Int.reduceNeg, Int.reduceLT, Int.reduceLE, Int.reduceEq, reduceCtorEq]) (by repeat (first | exact hAf | refine hA0 _ _ _ (by decide) ?_))
      subst ht2
      have hDk : ∀ {d : Stat}, chgD ⟨kd, (i : Int), ik, iv, fl, du, un, ky, wy, to, pr⟩ = d → s.addv ((comD c r i).add (sumT i (l.take (j + 1)))) = (s.addv ((comD c r i).add (sumT i (l.take j)))).addv d := fun {d} h => by
        rw [hst, show chgT i ⟨kd, (i : Int), ik, iv, fl, du, un, ky, wy, to, pr⟩ = d by unfold chgT; rw [if_pos rfl, h], addv_addv _ _ _ (h ▸ (chgD_pos _).1)]
        congr 1
        simp only [Stat.add, Stat.mk.injEq]; omega
      clear hst
      generalize hS : s.addv ((comD c r i).add (sumT i (l.take j))) = S at *
      by_cases k1 : kd = 1
      · subst k1
        rw [hDk (d := unitS 2 1) rfl, addv2 S hSr] at back
        clear hDk
        obtain ⟨S1, S2, S3, S4, S5, S6⟩ := S
        unfold Stat.cs at back ⊢
        simp only at back ⊢
        have up1 := fun J => refUp_spec S3 1 hSr.2.2.1 hb J
        clear hSr
        repeat' (first | simp only [go_sem, Nat.reduceLT, Nat.reduceEqDiff, Nat.reduceAdd, Nat.reduceMul, Nat.reduceSub, Nat.reduceLeDiff, Int.reduceToNat, Int.reduceNeg, Int.reduceLT, Int.reduceLE, Int.reduceEq, reduceCtorEq, Int.natCast_zero, Int.natCast_one, Int.cast_ofNat_Int, Bool.not_not, false_eq_decide, true_eq_decide, hread0, hreadk, read_cons0, read_consk, astore_h0, astore_hk, hget0, hgetk, hset0, hsetk, hlen, hcat, Nat.add_assoc, Nat.add_zero, Nat.zero_add, List.length_append, and_true, true_and, AV.flat, ga0, get_app ga0, read_get ga0, read_app ga0, *, -hK, -hm, -hfa, -I, -back, -up1, -hw, -hS, -hbk, -hR2] | refine WC.call (up1 _) ?_ | with_reducible refine IfB_dec (fun h => ?_) (fun h => ?_) | with_reducible refine Guard_dec (fun h => ?_) (fun h => ?_) | with_reducible refine Guard_ndec (fun h => ?_) (fun h => ?_) | with_reducible refine Guard_not (fun h => ?_) (fun h => ?_) | with_reducible refine IfB_ndec (fun h => ?_) (fun h => ?_) | with_reducible refine IfB_not (fun h => ?_) (fun h => ?_) | with_reducible refine Guard_split (fun h => ?_) (fun h => ?_) | with_reducible refine IfB_split (fun h => ?_) (fun h => ?_))
        exact back _ (by (repeat (first | exact hs | refine hA _ _ _ (by decide) ?_))) (by simp only [go_sem, Nat.reduceLT, Nat.reduceEqDiff, Nat.reduceAdd, Nat.reduceMul, Nat.reduceSub, Nat.reduceLeDiff, Int.reduceToNat, Int.reduceNeg, Int.reduceLT, Int.reduceLE, Int.reduceEq, reduceCtorEq]) (by repeat (first | exact hAf | refine hA0 _ _ _ (by decide) ?_))
      by_cases k2 : kd = 2
      · subst k2
        by_cases k3 : wy = 1
        · subst k3
          rw [hDk (d := unitS 3 1) rfl, addv3 S hSr] at back
          clear hDk
          obtain ⟨S1, S2, S3, S4, S5, S6⟩ := S
          unfold Stat.cs at back ⊢
          simp only at back ⊢
          have up1 := fun J => refUp_spec S4 1 hSr.2.2.2.1 hb J
          clear hSr
          repeat' (first | simp only [go_sem, Nat.reduceLT, Nat.reduceEqDiff, Nat.reduceAdd, Nat.reduceMul, Nat.reduceSub, Nat.reduceLeDiff, Int.reduceToNat, Int.reduceNeg, Int.reduceLT, Int.reduceLE, Int.reduceEq, reduceCtorEq, Int.natCast_zero, Int.natCast_one, Int.cast_ofNat_Int, Bool.not_not, false_eq_decide, true_eq_decide, hread0, hreadk, read_cons0, read_consk, astore_h0, astore_hk, hget0, hgetk, hset0, hsetk, hlen, hcat, Nat.add_assoc, Nat.add_zero, Nat.zero_add, List.length_append, and_true, true_and, AV.flat, ga0, get_app ga0, read_get ga0, read_app ga0, *, -hK, -hm, -hfa, -I, -back, -up1, -hw, -hS, -hbk, -hR2] | refine WC.call (up1 _) ?_ | with_reducible refine IfB_dec (fun h => ?_) (fun h => ?_) | with_reducible refine Guard_dec (fun h => ?_) (fun h => ?_) | with_reducible refine Guard_ndec (fun h => ?_) (fun h => ?_) | with_reducible refine Guard_not (fun h => ?_) (fun h => ?_) | with_reducible refine IfB_ndec (fun h => ?_) (fun h => ?_) | with_reducible refine IfB_not (fun h => ?_) (fun h => ?_) | with_reducible refine Guard_split (fun h => ?_) (fun h => ?_) | with_reducible refine IfB_split (fun h => ?_) (fun h => ?_))
          exact back _ (by (repeat (first | exact hs | refine hA _ _ _ (by decide) ?_))) (by simp only [go_sem, Nat.reduceLT, Nat.reduceEqDiff, Nat.reduceAdd, Nat.reduceMul, Nat.reduceSub, Nat.reduceLeDiff, Int.reduceToNat, Int.reduceNeg, Int.reduceLT, Int.reduceLE, Int.reduceEq, reduceCtorEq]) (by repeat (first | exact hAf | refine hA0 _ _ _ (by decide) ?_))
        · obtain rfl := (hxw rfl).resolve_left k3
          rw [hDk (d := unitS 4 1) rfl, addv4 S hSr] at back
          clear hDk
          obtain ⟨S1, S2, S3, S4, S5, S6⟩ := S
          unfold Stat.cs at back ⊢
          simp only at back ⊢
          have up1 := fun J => refUp_spec S5 1 hSr.2.2.2.2.1 hb J
          clear hSr
          repeat' (first | simp only [go_sem, Nat.reduceLT, Nat.reduceEqDiff, Nat.reduceAdd, Nat.reduceMul, Nat.reduceSub, Nat.reduceLeDiff, Int.reduceToNat, Int.reduceNeg, Int.reduceLT, Int.reduceLE, Int.reduceEq, reduceCtorEq, Int.natCast_zero, Int.natCast_one, Int.cast_ofNat_Int, Bool.not_not, false_eq_decide, true_eq_decide, hread0, hreadk, read_cons0, read_consk, astore_h0, astore_hk, hget0, hgetk, hset0, hsetk, hlen, hcat, Nat.add_assoc, Nat.add_zero, Nat.zero_add, List.length_append, and_true, true_and, AV.flat, ga0, get_app ga0, read_get ga0, read_app ga0, *, -hK, -hm, -hfa, -I, -back, -up1, -hw, -hS, -hbk, -hR2] | refine WC.call (up1 _) ?_ | with_reducible refine IfB_dec (fun h => ?_) (fun h => ?_) | with_reducible refine Guard_dec (fun h => ?_) (fun h => ?_) | with_reducible refine Guard_ndec (fun h => ?_) (fun h => ?_) | with_reducible refine Guard_not (fun h => ?_) (fun h => ?_) | with_reducible refine IfB_ndec (fun h => ?_) (fun h => ?_) | with_reducible refine IfB_not (fun h => ?_) (fun h => ?_) | with_reducible refine Guard_split (fun h => ?_) (fun h => ?_) | with_reducible refine IfB_split (fun h => ?_) (fun h => ?_))
          exact back _ (by (repeat (first | exact hs | refine hA _ _ _ (by decide) ?_))) (by simp only [go_sem, Nat.reduceLT, Nat.reduceEqDiff, Nat.reduceAdd, Nat.reduceMul, Nat.reduceSub, Nat.reduceLeDiff, Int.reduceToNat, Int.reduceNeg, Int.reduceLT, Int.reduceLE, Int.reduceEq, reduceCtorEq]) (by repeat (first | exact hAf | refine hA0 _ _ _ (by decide) ?_))
      rw [hDk (d := stat0) (by unfold chgD; rw [if_neg k1, if_neg (fun h => k2 h.1), if_neg k2]), addv_zero S hSr] at back
      clear hDk
      repeat' (first | simp only [go_sem, Nat.reduceLT, Nat.reduceEqDiff, Nat.reduceAdd, Nat.reduceMul, Nat.reduceSub, Nat.reduceLeDiff, Int.reduceToNat, Int.reduceNeg, Int.reduceLT, Int.reduceLE, Int.reduceEq, reduceCtorEq, Int.natCast_zero, Int.natCast_one, Int.cast_ofNat_Int, Bool.not_not, false_eq_decide, true_eq_decide, hread0, hreadk, read_cons0, read_consk, astore_h0, astore_hk, hget0, hgetk, hset0, hsetk, hlen, hcat, Nat.add_assoc, Nat.add_zero, Nat.zero_add, List.length_append, and_true, true_and, AV.flat, ga0, get_app ga0, read_get ga0, read_app ga0, *, -hK, -hm, -hfa, -I, -back, -hSr, -hw, -hbk, -hR2, -hS] | with_reducible refine IfB_dec (fun h => ?_) (fun h => ?_) | with_reducible refine Guard_dec (fun h => ?_) (fun h => ?_) | with_reducible refine Guard_ndec (fun h => ?_) (fun h => ?_) | with_reducible refine Guard_not (fun h => ?_) (fun h => ?_) | with_reducible refine IfB_ndec (fun h => ?_) (fun h => ?_) | with_reducible refine IfB_not (fun h => ?_) (fun h => ?_) | with_reducible refine Guard_split (fun h => ?_) (fun h => ?_) | with_reducible refine IfB_split (fun h => ?_) (fun h => ?_))
      exact back _ (by (repeat (first | exact hs | refine hA _ _ _ (by decide) ?_))) (by simp only [go_sem, Nat.reduceLT, Nat.reduceEqDiff, Nat.reduceAdd, Nat.reduceMul, Nat.reduceSub, Nat.reduceLeDiff, Int.reduceToNat, Int.reduceNeg, Int.reduceLT, Int.reduceLE, Int.reduceEq, reduceCtorEq]) (by repeat (first | exact hAf | refine hA0 _ _ _ (by decide) ?_))
end Go.Proofs.Ytinejbofnjndnaa
