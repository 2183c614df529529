import Derived.Test.YtkmkhiipiflelaaTktT
import Derived.Test.YtkmkhiipiflelaaTktR
set_option linter.unusedSimpArgs false
set_option linter.unusedVariables false
set_option maxRecDepth 100000
set_option maxHeartbeats 2000000
namespace Go.Proofs.Ytkmkhiipiflelaa
open Go Go.Proofs Go.Proofs.PI
theorem whereF_spec (t x : Tkt) (q : Nat) (hn : x.cmd.keys.length ≤ 140737488355328) (J : Heap) (hq : J[q]? = some ⟨t.cs, 0, .full⟩) : WC Try.prog 60 [x.av, .ptr q 0] J fun r H' => r = .bool (decide (t = x)) ∧ H' = J := by
  refine WC_val fun K hK => ?_
  have sm := fun J => tsame_spec x t hn J
  rw [show decide (x = t) = decide (t = x) by rw [decide_eq_decide]; exact eq_comm] at sm
  have hql := (List.getElem?_eq_some_iff.1 hq).1
  unfold Tkt.av at *
  unfold Tkt.cs at hq
  have hq3 := get_app hq [(⟨[.int .i64 x.num, .int .u8 x.kind, .int .u8 x.cmd.kind, .int .i64 x.cmd.ten, Enc.str.lst x.cmd.keys, .str x.cmd.val, .int .u32 x.cmd.flags, .int .i64 x.cmd.for_, .int .u64 x.cmd.uniq, .int .u64 x.cmd.by_, .int .i64 x.ten, .int .i64 x.to], 0, .full⟩ : Blk)]
  refine WC_of_body hT Try.func60 rfl (by simp [Try.f60]) (by simp [Try.f60]) (wx_sound hT _ ?_)
  simp only [Try.f60]
  repeat' (first | simp only [go_sem, Nat.reduceLT, Nat.reduceEqDiff, Nat.reduceAdd, Nat.reduceMul, Nat.reduceSub, Nat.reduceLeDiff, Int.reduceToNat, Int.reduceNeg, Int.reduceLT, Int.reduceLE, Int.reduceEq, reduceCtorEq, Int.natCast_zero, Int.natCast_one, Int.cast_ofNat_Int, Bool.not_not, false_eq_decide, true_eq_decide, hread0, hreadk, read_cons0, read_consk, astore_h0, astore_hk, hget0, hgetk, hset0, hsetk, hlen, hcat, Nat.add_assoc, Nat.add_zero, Nat.zero_add, List.length_append, and_true, true_and, AV.flat, hq3, get_app hq3, read_get hq3, read_app hq3, *, -hK, -sm, -hq] | refine WC.call (sm _) ?_ | with_reducible refine IfB_dec (fun h => ?_) (fun h => ?_) | with_reducible refine Guard_dec (fun h => ?_) (fun h => ?_) | with_reducible refine Guard_ndec (fun h => ?_) (fun h => ?_) | with_reducible refine Guard_not (fun h => ?_) (fun h => ?_) | with_reducible refine IfB_ndec (fun h => ?_) (fun h => ?_) | with_reducible refine IfB_not (fun h => ?_) (fun h => ?_) | with_reducible refine Guard_split (fun h => ?_) (fun h => ?_) | with_reducible refine IfB_split (fun h => ?_) (fun h => ?_))
  exact hK _ _ (.bool _) (Keep.app _ _ _)
theorem tIdxF_spec (xs : List Tkt) (g : FuncId) (cs : List AV) (p : Tkt → Bool) (hn : xs.length ≤ 140737488355328) (H : Heap) (hp : ∀ x ∈ xs, WC Try.prog g (Tkt.av x :: cs) H fun r H' => r = .bool (p x) ∧ H' = H) :
    WC Try.prog 68 [(tktE).lst xs, .fn g [] cs] H fun r H' => r = .int .i64 (idxI (xs.findIdx? p)) ∧ H' = H := by
  refine WC_of_K fun K hK => ?_
  refine WC_of_body hT Try.func68 rfl (by simp [Try.f68]) (by simp [Try.f68]) (wx_sound hT _ ?_)
  simp only [Try.f68]
  repeat' (first | simp only [go_sem, Nat.reduceLT, Nat.reduceEqDiff, Nat.reduceAdd, Nat.reduceMul, Nat.reduceSub, Nat.reduceLeDiff, Int.reduceToNat, Int.reduceNeg, Int.reduceLT, Int.reduceLE, Int.reduceEq, reduceCtorEq, Int.natCast_zero, Int.natCast_one, Int.cast_ofNat_Int, Bool.not_not, false_eq_decide, true_eq_decide, hread0, hreadk, read_cons0, read_consk, astore_h0, astore_hk, hget0, hgetk, hset0, hsetk, hlen, hcat, Nat.add_assoc, Nat.add_zero, Nat.zero_add, List.length_append, and_true, true_and, AV.flat, *, -hK] | with_reducible refine IfB_dec (fun h => ?_) (fun h => ?_) | with_reducible refine Guard_dec (fun h => ?_) (fun h => ?_) | with_reducible refine Guard_ndec (fun h => ?_) (fun h => ?_) | with_reducible refine Guard_not (fun h => ?_) (fun h => ?_) | with_reducible refine IfB_ndec (fun h => ?_) (fun h => ?_) | with_reducible refine IfB_not (fun h => ?_) (fun h => ?_) | with_reducible refine Guard_split (fun h => ?_) (fun h => ?_) | with_reducible refine IfB_split (fun h => ?_) (fun h => ?_))
  refine WX_loopS [0, 1, 7] (fun k fr' H' => ∃ i : Nat, k = xs.length - i ∧ i ≤ xs.length ∧ fr'.get 8 = .int .i64 i ∧ H' = H ∧ ∀ j (hj : j < i) (hx : j < xs.length), p xs[j] = false) xs.length ⟨0, rfl, by omega, by simp only [go_sem, Nat.reduceLT, Nat.reduceEqDiff, Nat.reduceAdd, Nat.reduceMul, Nat.reduceSub, Nat.reduceLeDiff, Int.reduceToNat, Int.reduceNeg, Int.reduceLT, Int.reduceLE, Int.reduceEq, reduceCtorEq]; rfl, rfl, fun j hj => by omega⟩ ?_
  rintro k fr' H' A R hA hs hg hR ⟨i, rfl, hi, f8, rfl, hno⟩
  have s0 := hg 0 (by decide)
  have s1 := hg 1 (by decide)
  have s7 := hg 7 (by decide)
  simp only [Fr.get_put, Fr.get_init, List.getD_cons_zero, List.getD_cons_succ, Nat.reduceEqDiff, if_true, if_false] at s0 s1 s7
  refine wx_sound hT _ ?_
  repeat' (first | simp only [go_sem, Nat.reduceLT, Nat.reduceEqDiff, Nat.reduceAdd, Nat.reduceMul, Nat.reduceSub, Nat.reduceLeDiff, Int.reduceToNat, Int.reduceNeg, Int.reduceLT, Int.reduceLE, Int.reduceEq, reduceCtorEq, Int.natCast_zero, Int.natCast_one, Int.cast_ofNat_Int, Bool.not_not, false_eq_decide, true_eq_decide, hread0, hreadk, read_cons0, read_consk, astore_h0, astore_hk, hget0, hgetk, hset0, hsetk, hlen, hcat, Nat.add_assoc, Nat.add_zero, Nat.zero_add, List.length_append, and_true, true_and, AV.flat, *, -hK] | with_reducible refine IfB_dec (fun h => ?_) (fun h => ?_) | with_reducible refine Guard_dec (fun h => ?_) (fun h => ?_) | with_reducible refine Guard_ndec (fun h => ?_) (fun h => ?_) | with_reducible refine Guard_not (fun h => ?_) (fun h => ?_) | with_reducible refine IfB_ndec (fun h => ?_) (fun h => ?_) | with_reducible refine IfB_not (fun h => ?_) (fun h => ?_) | with_reducible refine Guard_split (fun h => ?_) (fun h => ?_) | with_reducible refine IfB_split (fun h => ?_) (fun h => ?_))
  case refine_1 =>
    have hlt : i < xs.length := by omega
    have e1 := at_enc (E := tktE) (k := .i64) se31 hlt rfl
    have e3 := inc_id hlt hn
    repeat' (first | simp only [go_sem, Nat.reduceLT, Nat.reduceEqDiff, Nat.reduceAdd, Nat.reduceMul, Nat.reduceSub, Nat.reduceLeDiff, Int.reduceToNat, Int.reduceNeg, Int.reduceLT, Int.reduceLE, Int.reduceEq, reduceCtorEq, Int.natCast_zero, Int.natCast_one, Int.cast_ofNat_Int, Bool.not_not, false_eq_decide, true_eq_decide, hread0, hreadk, read_cons0, read_consk, astore_h0, astore_hk, hget0, hgetk, hset0, hsetk, hlen, hcat, Nat.add_assoc, Nat.add_zero, Nat.zero_add, List.length_append, and_true, true_and, AV.flat, tktE_cells, Tkt.av, *, -hK] | refine WC.call (hp _ (List.getElem_mem hlt)) ?_ | with_reducible refine IfB_dec (fun h => ?_) (fun h => ?_) | with_reducible refine Guard_dec (fun h => ?_) (fun h => ?_) | with_reducible refine Guard_ndec (fun h => ?_) (fun h => ?_) | with_reducible refine Guard_not (fun h => ?_) (fun h => ?_) | with_reducible refine IfB_ndec (fun h => ?_) (fun h => ?_) | with_reducible refine IfB_not (fun h => ?_) (fun h => ?_) | with_reducible refine Guard_split (fun h => ?_) (fun h => ?_) | with_reducible refine IfB_split (fun h => ?_) (fun h => ?_))
    case refine_1 =>
      refine hK _ _ ⟨?_, rfl⟩
      have : xs.findIdx? p = some i := by
        rw [List.findIdx?_eq_some_iff_getElem]
        exact ⟨hlt, h, fun j hj => by rw [hno j hj (by omega)]; simp⟩
      rw [this]; rfl
    case refine_2 =>
      refine hR _ _ (by (repeat (first | exact hs | refine hA _ _ _ (by decide) ?_))) (xs.length - (i + 1)) (by omega) ⟨i + 1, rfl, by omega, by simp only [go_sem, Nat.reduceLT, Nat.reduceEqDiff, Nat.reduceAdd, Nat.reduceMul, Nat.reduceSub, Nat.reduceLeDiff, Int.reduceToNat, Int.reduceNeg, Int.reduceLT, Int.reduceLE, Int.reduceEq, reduceCtorEq], rfl, fun j hj hx => ?_⟩
      · by_cases e : j = i
        · subst e; exact h
        · exact hno j (by omega) hx
  case refine_2 =>
    repeat' (first | simp only [go_sem, Nat.reduceLT, Nat.reduceEqDiff, Nat.reduceAdd, Nat.reduceMul, Nat.reduceSub, Nat.reduceLeDiff, Int.reduceToNat, Int.reduceNeg, Int.reduceLT, Int.reduceLE, Int.reduceEq, reduceCtorEq, Int.natCast_zero, Int.natCast_one, Int.cast_ofNat_Int, Bool.not_not, false_eq_decide, true_eq_decide, hread0, hreadk, read_cons0, read_consk, astore_h0, astore_hk, hget0, hgetk, hset0, hsetk, hlen, hcat, Nat.add_assoc, Nat.add_zero, Nat.zero_add, List.length_append, and_true, true_and, AV.flat, *, -hK] | with_reducible refine IfB_dec (fun h => ?_) (fun h => ?_) | with_reducible refine Guard_dec (fun h => ?_) (fun h => ?_) | with_reducible refine Guard_ndec (fun h => ?_) (fun h => ?_) | with_reducible refine Guard_not (fun h => ?_) (fun h => ?_) | with_reducible refine IfB_ndec (fun h => ?_) (fun h => ?_) | with_reducible refine IfB_not (fun h => ?_) (fun h => ?_) | with_reducible refine Guard_split (fun h => ?_) (fun h => ?_) | with_reducible refine IfB_split (fun h => ?_) (fun h => ?_))
    refine hK _ _ ⟨?_, rfl⟩
    have : xs.findIdx? p = none := by
      rw [List.findIdx?_eq_none_iff]
      intro x hx
      obtain ⟨j, hj, rfl⟩ := List.getElem_of_mem hx
      exact hno j (by omega) hj
    rw [this]; rfl
theorem tHasF_spec (xs : List Tkt) (g : FuncId) (cs : List AV) (p : Tkt → Bool) (hn : xs.length ≤ 140737488355328) (H : Heap) (hp : ∀ x ∈ xs, WC Try.prog g (Tkt.av x :: cs) H fun r H' => r = .bool (p x) ∧ H' = H) :
    WC Try.prog 59 [(tktE).lst xs, .fn g [] cs] H fun r H' => r = .bool (xs.any p) ∧ H' = H := by
  refine WC_of_K fun K hK => ?_
  refine WC_of_body hT Try.func59 rfl (by simp [Try.f59]) (by simp [Try.f59]) (wx_sound hT _ ?_)
  simp only [Try.f59]
  repeat' (first | simp only [go_sem, Nat.reduceLT, Nat.reduceEqDiff, Nat.reduceAdd, Nat.reduceMul, Nat.reduceSub, Nat.reduceLeDiff, Int.reduceToNat, Int.reduceNeg, Int.reduceLT, Int.reduceLE, Int.reduceEq, reduceCtorEq, Int.natCast_zero, Int.natCast_one, Int.cast_ofNat_Int, Bool.not_not, false_eq_decide, true_eq_decide, hread0, hreadk, read_cons0, read_consk, astore_h0, astore_hk, hget0, hgetk, hset0, hsetk, hlen, hcat, Nat.add_assoc, Nat.add_zero, Nat.zero_add, List.length_append, and_true, true_and, AV.flat, *, -hK] | refine WC.call (tIdxF_spec xs g cs p hn _ hp) ?_ | with_reducible refine IfB_dec (fun h => ?_) (fun h => ?_) | with_reducible refine Guard_dec (fun h => ?_) (fun h => ?_) | with_reducible refine Guard_ndec (fun h => ?_) (fun h => ?_) | with_reducible refine Guard_not (fun h => ?_) (fun h => ?_) | with_reducible refine IfB_ndec (fun h => ?_) (fun h => ?_) | with_reducible refine IfB_not (fun h => ?_) (fun h => ?_) | with_reducible refine Guard_split (fun h => ?_) (fun h => ?_) | with_reducible refine IfB_split (fun h => ?_) (fun h => ?_))
  refine hK _ _ ⟨?_, rfl⟩
  congr 1
  cases hf : xs.findIdx? p with
  | none =>
    rw [List.findIdx?_eq_none_iff] at hf
    have : xs.any p = false := by rw [List.any_eq_false]; intro x hx; simp [hf x hx]
    rw [this]; rfl
  | some i =>
    rw [List.findIdx?_eq_some_iff_getElem] at hf
    obtain ⟨hi, hp1, _⟩ := hf
    have : xs.any p = true := by rw [List.any_eq_true]; exact ⟨_, List.getElem_mem hi, hp1⟩
    rw [this]; simp [idxI]
/-- How great queues are. -/
def qFit (b : List (List Tkt)) : Prop := b.length ≤ 20 ∧ ∀ l ∈ b, l.length ≤ 1000 ∧ ∀ t ∈ l, t.cmd.keys.length ≤ 1000 ∧ ∀ k ∈ t.cmd.keys, k.length ≤ 100000
def whereN (b : List (List Tkt)) (t : Tkt) (n : Nat) : List Int := ((List.range n).filter fun i => decide (t ∈ b[i]?.getD [])).map fun i : Nat => (i : Int)
theorem whereN_step (b : List (List Tkt)) (t : Tkt) {i : Nat} (h : i < b.length) : whereN b t (i + 1) = whereN b t i ++ if t ∈ b[i] then [(i : Int)] else [] := by
  unfold whereN
  rw [List.range_succ, List.filter_append, List.map_append]
  congr 1
  by_cases hh : t ∈ b[i] <;> simp [h, hh]
theorem whereN_len (b : List (List Tkt)) (t : Tkt) (n : Nat) : (whereN b t n).length ≤ n := by
  unfold whereN
  have := List.length_filter_le (fun i => decide (t ∈ b[i]?.getD [])) (List.range n)
  rw [List.length_map]; rw [List.length_range] at this; exact this
theorem any_mem (l : List Tkt) (t : Tkt) : l.any (fun x => decide (t = x)) = decide (t ∈ l) := by
  induction l with
  | nil => simp
  | cons a l ih => rw [List.any_cons, ih, Bool.eq_iff_iff]; simp [List.mem_cons]
theorem where_spec (q : Que) (t : Tkt) (hb : qFit q.bx) (H : Heap) : WC Try.prog 44 [q.av, t.av] H fun r H' => r = (Enc.int .i64).lst (whereL q.bx t) ∧ H' = H := by
  refine WC_val fun K hK => ?_
  obtain ⟨nx, bs⟩ := q
  obtain ⟨hb1, hb2⟩ := hb
  simp only at hb1 hb2 hK
  rw [show whereL bs t = whereN bs t bs.length from rfl] at hK
  have cl := fun (x : Tkt) (J : Heap) (hx : x.cmd.keys.length ≤ 1000) (hq : J[H.length + 1]? = some ⟨t.cs, 0, .full⟩) => whereF_spec t x (H.length + 1) (by omega) J hq
  unfold Tkt.cs at cl
  unfold Que.av Tkt.av
  simp only
  refine WC_of_body hT Try.func44 rfl (by simp [Try.f44]) (by simp [Try.f44]) (wx_sound hT _ ?_)
  simp only [Try.f44]
  repeat' (first | simp only [go_sem, Nat.reduceLT, Nat.reduceEqDiff, Nat.reduceAdd, Nat.reduceMul, Nat.reduceSub, Nat.reduceLeDiff, Int.reduceToNat, Int.reduceNeg, Int.reduceLT, Int.reduceLE, Int.reduceEq, reduceCtorEq, Int.natCast_zero, Int.natCast_one, Int.cast_ofNat_Int, Bool.not_not, false_eq_decide, true_eq_decide, hread0, hreadk, read_cons0, read_consk, astore_h0, astore_hk, hget0, hgetk, hset0, hsetk, hlen, hcat, Nat.add_assoc, Nat.add_zero, Nat.zero_add, List.length_append, and_true, true_and, AV.flat, *, -hK, -hb2, -cl] | with_reducible refine IfB_dec (fun h => ?_) (fun h => ?_) | with_reducible refine Guard_dec (fun h => ?_) (fun h => ?_) | with_reducible refine Guard_ndec (fun h => ?_) (fun h => ?_) | with_reducible refine Guard_not (fun h => ?_) (fun h => ?_) | with_reducible refine IfB_ndec (fun h => ?_) (fun h => ?_) | with_reducible refine IfB_not (fun h => ?_) (fun h => ?_) | with_reducible refine Guard_split (fun h => ?_) (fun h => ?_) | with_reducible refine IfB_split (fun h => ?_) (fun h => ?_))
  refine WX_loopS [3, 9, 10] (fun k fr' J => ∃ (i : Nat) (w : AV), k = bs.length - i ∧ i ≤ bs.length ∧ fr'.get 11 = .int .i64 i ∧ fr'.get 5 = w ∧ OwnE (Enc.int .i64) (H.length + 2) J w (whereN bs t i) ∧ Keep none H J ∧ H.length + 2 ≤ J.length ∧ J[H.length + 1]? = some (⟨[.int .i64 t.num, .int .u8 t.kind, .int .u8 t.cmd.kind, .int .i64 t.cmd.ten, Enc.str.lst t.cmd.keys, .str t.cmd.val, .int .u32 t.cmd.flags, .int .i64 t.cmd.for_, .int .u64 t.cmd.uniq, .int .u64 t.cmd.by_, .int .i64 t.ten, .int .i64 t.to], 0, .full⟩ : Blk)) bs.length ⟨0, .nils, rfl, by omega, by simp only [go_sem, Nat.reduceLT, Nat.reduceEqDiff, Nat.reduceAdd, Nat.reduceMul, Nat.reduceSub, Nat.reduceLeDiff, Int.reduceToNat, Int.reduceNeg, Int.reduceLT, Int.reduceLE, Int.reduceEq, reduceCtorEq]; rfl, by simp only [go_sem, Nat.reduceLT, Nat.reduceEqDiff, Nat.reduceAdd, Nat.reduceMul, Nat.reduceSub, Nat.reduceLeDiff, Int.reduceToNat, Int.reduceNeg, Int.reduceLT, Int.reduceLE, Int.reduceEq, reduceCtorEq], by simp only [whereN, List.range_zero, List.filter_nil, List.map_nil]; exact OwnE.nils _ _ _, Keep.app _ _ _, by simp, by rw [hgetk]; rfl⟩ ?_
  rintro k fr' J A R hA hs hg hR ⟨i, w, rfl, hi, f11, f5, ow, kJ, hJl, g1⟩
  have s3 := hg 3 (by decide)
  have s9 := hg 9 (by decide)
  have s10 := hg 10 (by decide)
  simp only [Fr.get_put, Fr.get_init, List.getD_cons_zero, List.getD_cons_succ, Nat.reduceEqDiff, if_true, if_false] at s3 s9 s10
  refine wx_sound hT _ ?_
  have hwo := ow.one
  by_cases hlt : i < bs.length
  rotate_left
  · have i1 : ¬ (i : Int) < bs.length := by omega
    have hie : i = bs.length := by omega
    rw [hie] at ow
    repeat' (first | simp only [go_sem, Nat.reduceLT, Nat.reduceEqDiff, Nat.reduceAdd, Nat.reduceMul, Nat.reduceSub, Nat.reduceLeDiff, Int.reduceToNat, Int.reduceNeg, Int.reduceLT, Int.reduceLE, Int.reduceEq, reduceCtorEq, Int.natCast_zero, Int.natCast_one, Int.cast_ofNat_Int, Bool.not_not, false_eq_decide, true_eq_decide, hread0, hreadk, read_cons0, read_consk, astore_h0, astore_hk, hget0, hgetk, hset0, hsetk, hlen, hcat, Nat.add_assoc, Nat.add_zero, Nat.zero_add, List.length_append, and_true, true_and, AV.flat, hwo, one_solid hwo, one_cells hwo, *, -hK, -hb2, -cl, -ow, -kJ, -hJl, -g1, -hie] | with_reducible refine IfB_dec (fun h => ?_) (fun h => ?_) | with_reducible refine Guard_dec (fun h => ?_) (fun h => ?_) | with_reducible refine Guard_ndec (fun h => ?_) (fun h => ?_) | with_reducible refine Guard_not (fun h => ?_) (fun h => ?_) | with_reducible refine IfB_ndec (fun h => ?_) (fun h => ?_) | with_reducible refine IfB_not (fun h => ?_) (fun h => ?_) | with_reducible refine Guard_split (fun h => ?_) (fun h => ?_) | with_reducible refine IfB_split (fun h => ?_) (fun h => ?_))
    exact hK _ _ (OwnE.thaw (E := Enc.int .i64) (Own.mono ow (m' := H.length) (by omega)) (by decide)) kJ
  have i1 : (i : Int) < bs.length := by omega
  have e3 := inc_id hlt (by omega)
  have e1 := at_enc (E := boxE) (T := T) (k := .i64) se22 hlt rfl
  rw [boxE_cells] at e1
  obtain ⟨hl1, hl2⟩ := hb2 _ (List.getElem_mem hlt)
  have hc := tHasF_spec bs[i] 60 [.ptr (H.length + 1) 0] (fun x => decide (t = x)) (by omega) J (fun x hx => cl x J (hl2 x hx).1 g1)
  rw [any_mem] at hc
  have hst := whereN_step bs t hlt
  have hwl := whereN_len bs t i
  have back : ∀ fr2 J2 w2, A fr2 → fr2.get 11 = .int .i64 ((i + 1 : Nat) : Int) → fr2.get 5 = w2 → OwnE (Enc.int .i64) (H.length + 2) J2 w2 (whereN bs t (i + 1)) → Keep none H J2 → H.length + 2 ≤ J2.length → J2[H.length + 1]? = J[H.length + 1]? → R fr2 J2 := fun fr2 J2 w2 ha q1 q2 q3 q4 q5 q6 => hR fr2 J2 ha (bs.length - (i + 1)) (by omega) ⟨i + 1, w2, rfl, by omega, q1, q2, q3, q4, q5, by rw [q6]; exact g1⟩
  rw [hst] at back
  clear hR hst cl
  by_cases hm : t ∈ bs[i]
  · rw [if_pos hm] at back
    rw [decide_eq_true hm] at hc
    clear hm
    repeat' (first | simp only [go_sem, Nat.reduceLT, Nat.reduceEqDiff, Nat.reduceAdd, Nat.reduceMul, Nat.reduceSub, Nat.reduceLeDiff, Int.reduceToNat, Int.reduceNeg, Int.reduceLT, Int.reduceLE, Int.reduceEq, reduceCtorEq, Int.natCast_zero, Int.natCast_one, Int.cast_ofNat_Int, Bool.not_not, false_eq_decide, true_eq_decide, hread0, hreadk, read_cons0, read_consk, astore_h0, astore_hk, hget0, hgetk, hset0, hsetk, hlen, hcat, Nat.add_assoc, Nat.add_zero, Nat.zero_add, List.length_append, and_true, true_and, AV.flat, hwo, one_solid hwo, one_cells hwo, *, -hK, -hb2, -ow, -kJ, -hJl, -g1, -hc, -back, -hl1, -hl2, -hwl] | refine WC.call (hc) ?_ | with_reducible refine IfB_dec (fun h => ?_) (fun h => ?_) | with_reducible refine Guard_dec (fun h => ?_) (fun h => ?_) | with_reducible refine Guard_ndec (fun h => ?_) (fun h => ?_) | with_reducible refine Guard_not (fun h => ?_) (fun h => ?_) | with_reducible refine IfB_ndec (fun h => ?_) (fun h => ?_) | with_reducible refine IfB_not (fun h => ?_) (fun h => ?_) | with_reducible refine Guard_split (fun h => ?_) (fun h => ?_) | with_reducible refine IfB_split (fun h => ?_) (fun h => ?_))
    refine append1_enc (E := Enc.int .i64) (x := (i : Int)) ow rfl se27 az3 td3 tk27 rfl rfl (by decide) (by show (_ + 1) * 9 ≤ _; omega) hJl ?_
    intro v5 H5 o5 k5 hn5
    have hv5 := o5.one
    repeat' (first | simp only [go_sem, Nat.reduceLT, Nat.reduceEqDiff, Nat.reduceAdd, Nat.reduceMul, Nat.reduceSub, Nat.reduceLeDiff, Int.reduceToNat, Int.reduceNeg, Int.reduceLT, Int.reduceLE, Int.reduceEq, reduceCtorEq, Int.natCast_zero, Int.natCast_one, Int.cast_ofNat_Int, Bool.not_not, false_eq_decide, true_eq_decide, hread0, hreadk, read_cons0, read_consk, astore_h0, astore_hk, hget0, hgetk, hset0, hsetk, hlen, hcat, Nat.add_assoc, Nat.add_zero, Nat.zero_add, List.length_append, and_true, true_and, AV.flat, hv5, one_solid hv5, one_cells hv5, *, -hK, -hb2, -ow, -kJ, -hJl, -g1, -hc, -back, -hl1, -hl2, -hwl, -o5, -k5, -hn5] | with_reducible refine IfB_dec (fun h => ?_) (fun h => ?_) | with_reducible refine Guard_dec (fun h => ?_) (fun h => ?_) | with_reducible refine Guard_ndec (fun h => ?_) (fun h => ?_) | with_reducible refine Guard_not (fun h => ?_) (fun h => ?_) | with_reducible refine IfB_ndec (fun h => ?_) (fun h => ?_) | with_reducible refine IfB_not (fun h => ?_) (fun h => ?_) | with_reducible refine Guard_split (fun h => ?_) (fun h => ?_) | with_reducible refine IfB_split (fun h => ?_) (fun h => ?_))
    exact back _ _ _ (by (repeat (first | exact hs | refine hA _ _ _ (by decide) ?_))) (by simp only [go_sem, Nat.reduceLT, Nat.reduceEqDiff, Nat.reduceAdd, Nat.reduceMul, Nat.reduceSub, Nat.reduceLeDiff, Int.reduceToNat, Int.reduceNeg, Int.reduceLT, Int.reduceLE, Int.reduceEq, reduceCtorEq]) rfl (by simp only [go_sem, Nat.reduceLT, Nat.reduceEqDiff, Nat.reduceAdd, Nat.reduceMul, Nat.reduceSub, Nat.reduceLeDiff, Int.reduceToNat, Int.reduceNeg, Int.reduceLT, Int.reduceLE, Int.reduceEq, reduceCtorEq]; exact o5) (kJ.via k5 (fun b hb => by have := ow.ge hb; omega)) (Nat.le_trans hJl k5.len) (k5.at_ _ (by omega) (fun e => by have := ow.ge e; omega))
  · rw [if_neg hm, List.append_nil] at back
    rw [decide_eq_false hm] at hc
    clear hm
    repeat' (first | simp only [go_sem, Nat.reduceLT, Nat.reduceEqDiff, Nat.reduceAdd, Nat.reduceMul, Nat.reduceSub, Nat.reduceLeDiff, Int.reduceToNat, Int.reduceNeg, Int.reduceLT, Int.reduceLE, Int.reduceEq, reduceCtorEq, Int.natCast_zero, Int.natCast_one, Int.cast_ofNat_Int, Bool.not_not, false_eq_decide, true_eq_decide, hread0, hreadk, read_cons0, read_consk, astore_h0, astore_hk, hget0, hgetk, hset0, hsetk, hlen, hcat, Nat.add_assoc, Nat.add_zero, Nat.zero_add, List.length_append, and_true, true_and, AV.flat, hwo, one_solid hwo, one_cells hwo, *, -hK, -hb2, -ow, -kJ, -hJl, -g1, -hc, -back, -hl1, -hl2, -hwl] | refine WC.call (hc) ?_ | with_reducible refine IfB_dec (fun h => ?_) (fun h => ?_) | with_reducible refine Guard_dec (fun h => ?_) (fun h => ?_) | with_reducible refine Guard_ndec (fun h => ?_) (fun h => ?_) | with_reducible refine Guard_not (fun h => ?_) (fun h => ?_) | with_reducible refine IfB_ndec (fun h => ?_) (fun h => ?_) | with_reducible refine IfB_not (fun h => ?_) (fun h => ?_) | with_reducible refine Guard_split (fun h => ?_) (fun h => ?_) | with_reducible refine IfB_split (fun h => ?_) (fun h => ?_))
    exact back _ _ _ (by (repeat (first | exact hs | refine hA _ _ _ (by decide) ?_))) (by simp only [go_sem, Nat.reduceLT, Nat.reduceEqDiff, Nat.reduceAdd, Nat.reduceMul, Nat.reduceSub, Nat.reduceLeDiff, Int.reduceToNat, Int.reduceNeg, Int.reduceLT, Int.reduceLE, Int.reduceEq, reduceCtorEq]) (by simp only [go_sem, Nat.reduceLT, Nat.reduceEqDiff, Nat.reduceAdd, Nat.reduceMul, Nat.reduceSub, Nat.reduceLeDiff, Int.reduceToNat, Int.reduceNeg, Int.reduceLT, Int.reduceLE, Int.reduceEq, reduceCtorEq]; exact f5) ow kJ hJl rfl
end Go.Proofs.Ytkmkhiipiflelaa
