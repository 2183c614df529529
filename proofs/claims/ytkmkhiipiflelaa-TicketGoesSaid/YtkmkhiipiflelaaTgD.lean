import Derived.Test.YtkmkhiipiflelaaTgC
set_option linter.unusedSimpArgs false
set_option linter.unusedVariables false
set_option maxRecDepth 100000
set_option maxHeartbeats 4000000
namespace Go.Proofs.Ytkmkhiipiflelaa
open Go Go.Proofs Go.Proofs.PI
theorem boxB_mem {b : List (List Tkt)} {nx : Int} : ∀ {l : List Tkt} {last : Int}, boxB b nx last l = true → ∀ t ∈ l, last < t.num ∧ whereL b t = shardsL t b.length
  | [], _, _, t, ht => by simp at ht
  | x :: l, last, h, t, ht => by
    rw [boxB, Bool.and_eq_true, Bool.and_eq_true, Bool.and_eq_true, decide_eq_true_eq, decide_eq_true_eq] at h
    obtain ⟨⟨⟨_, h1⟩, h2⟩, h3⟩ := h
    rcases List.mem_cons.1 ht with rfl | ht
    · exact ⟨h1.1, h2⟩
    · have := boxB_mem h3 t ht
      exact ⟨by omega, this.2⟩
theorem mem_whereL {b : List (List Tkt)} {t : Tkt} {j : Int} : j ∈ whereL b t ↔ ∃ k : Nat, j = k ∧ ∃ h : k < b.length, t ∈ b[k] := by
  unfold whereL
  rw [List.mem_map]
  constructor
  · rintro ⟨k, hk, rfl⟩
    rw [List.mem_filter, List.mem_range] at hk
    refine ⟨k, rfl, hk.1, ?_⟩
    have := hk.2
    rw [List.getElem?_eq_getElem hk.1] at this
    simpa using this
  · rintro ⟨k, rfl, h, ht⟩
    exact ⟨k, by rw [List.mem_filter, List.mem_range]; exact ⟨h, by rw [List.getElem?_eq_getElem h]; simpa using ht⟩, rfl⟩
def headN (b : List (List Tkt)) (j : Int) : Int := match b[j.toNat]?.getD [] with
  | [] => 0
  | t :: _ => t.num
def readyB (b : List (List Tkt)) (i : Nat) : Bool := match b[i]?.getD [] with
  | [] => false
  | t :: _ => !((shardsL t b.length).any fun j => decide (¬ headN b j = t.num))
theorem readyF_spec (nx : Int) (bs : List (List Tkt)) (t h : Tkt) (l : List Tkt) (k : Nat) (hk : k < bs.length) (hl : bs[k] = h :: l) (qb tb : Nat) (J : Heap) (g0 : J[qb]? = some ⟨[.int .i64 nx, boxE.lst bs], 0, .full⟩) (g1 : J[tb]? = some ⟨t.cs, 0, .full⟩) :
    WC Try.prog 46 [.int .i64 k, .ptr qb 0, .ptr tb 0] J fun r H' => r = .bool (decide (¬ h.num = t.num)) ∧ H' = J := by
  refine WC_of_K fun K hK => ?_
  have e1 := at_enc (E := boxE) (T := T) (k := .i64) se22 hk rfl
  have e2 := at_enc (E := tktE) (T := T) (xs := h :: l) (i := 0) (k := .i64) (z := 0) se31 (by simp) rfl
  rw [boxE_cells, hl] at e1
  rw [tktE_cells] at e2
  simp only [List.getElem_cons_zero] at e2
  unfold Tkt.cs at g1
  generalize h :: l = hs at *
  refine WC_of_body hT Try.func46 rfl (by simp [Try.f46]) (by simp [Try.f46]) (wx_sound hT _ ?_)
  simp only [Try.f46]
  repeat' (first | simp only [go_sem, Nat.reduceLT, Nat.reduceEqDiff, Nat.reduceAdd, Nat.reduceMul, Nat.reduceSub, Nat.reduceLeDiff, Int.reduceToNat, Int.reduceNeg, Int.reduceLT, Int.reduceLE, Int.reduceEq, reduceCtorEq, Int.natCast_zero, Int.natCast_one, Int.cast_ofNat_Int, Bool.not_not, false_eq_decide, true_eq_decide, hread0, hreadk, read_cons0, read_consk, astore_h0, astore_hk, hget0, hgetk, hset0, hsetk, hlen, hcat, Nat.add_assoc, Nat.add_zero, Nat.zero_add, List.length_append, and_true, true_and, AV.flat, g0, get_app g0, read_get g0, read_app g0, g1, get_app g1, read_get g1, read_app g1, *, -hK, -hl] | with_reducible refine IfB_dec (fun h => ?_) (fun h => ?_) | with_reducible refine Guard_dec (fun h => ?_) (fun h => ?_) | with_reducible refine Guard_ndec (fun h => ?_) (fun h => ?_) | with_reducible refine Guard_not (fun h => ?_) (fun h => ?_) | with_reducible refine IfB_ndec (fun h => ?_) (fun h => ?_) | with_reducible refine IfB_not (fun h => ?_) (fun h => ?_) | with_reducible refine Guard_split (fun h => ?_) (fun h => ?_) | with_reducible refine IfB_split (fun h => ?_) (fun h => ?_))
  refine WX_rows hT hmix [(0, none), (1, none), (2, none), (3, none), (4, none), (5, none), (6, none), (7, none), (8, none), (9, none), (10, none), (11, none)] (by kernel_rfl) ?_
  repeat' (first | simp only [go_sem, Nat.reduceLT, Nat.reduceEqDiff, Nat.reduceAdd, Nat.reduceMul, Nat.reduceSub, Nat.reduceLeDiff, Int.reduceToNat, Int.reduceNeg, Int.reduceLT, Int.reduceLE, Int.reduceEq, reduceCtorEq, Int.natCast_zero, Int.natCast_one, Int.cast_ofNat_Int, Bool.not_not, false_eq_decide, true_eq_decide, hread0, hreadk, read_cons0, read_consk, astore_h0, astore_hk, hget0, hgetk, hset0, hsetk, hlen, hcat, Nat.add_assoc, Nat.add_zero, Nat.zero_add, List.length_append, and_true, true_and, AV.flat, g0, get_app g0, read_get g0, read_app g0, g1, get_app g1, read_get g1, read_app g1, *, -hK, -hl] | with_reducible refine IfB_dec (fun h => ?_) (fun h => ?_) | with_reducible refine Guard_dec (fun h => ?_) (fun h => ?_) | with_reducible refine Guard_ndec (fun h => ?_) (fun h => ?_) | with_reducible refine Guard_not (fun h => ?_) (fun h => ?_) | with_reducible refine IfB_ndec (fun h => ?_) (fun h => ?_) | with_reducible refine IfB_not (fun h => ?_) (fun h => ?_) | with_reducible refine Guard_split (fun h => ?_) (fun h => ?_) | with_reducible refine IfB_split (fun h => ?_) (fun h => ?_))
  exact hK _ _ ⟨by rw [decide_not], rfl⟩
theorem iIdxF_spec (xs : List Int) (g : FuncId) (cs : List AV) (p : Int → Bool) (hn : xs.length ≤ 140737488355328) (H : Heap) (hp : ∀ x ∈ xs, WC Try.prog g (AV.int .i64 x :: cs) H fun r H' => r = .bool (p x) ∧ H' = H) :
    WC Try.prog 49 [((Enc.int .i64)).lst xs, .fn g [] cs] H fun r H' => r = .int .i64 (idxI (xs.findIdx? p)) ∧ H' = H := by
  refine WC_of_K fun K hK => ?_
  refine WC_of_body hT Try.func49 rfl (by simp [Try.f49]) (by simp [Try.f49]) (wx_sound hT _ ?_)
  simp only [Try.f49]
  repeat' (first | simp only [go_sem, Nat.reduceLT, Nat.reduceEqDiff, Nat.reduceAdd, Nat.reduceMul, Nat.reduceSub, Nat.reduceLeDiff, Int.reduceToNat, Int.reduceNeg, Int.reduceLT, Int.reduceLE, Int.reduceEq, reduceCtorEq, Int.natCast_zero, Int.natCast_one, Int.cast_ofNat_Int, Bool.not_not, false_eq_decide, true_eq_decide, hread0, hreadk, read_cons0, read_consk, astore_h0, astore_hk, hget0, hgetk, hset0, hsetk, hlen, hcat, Nat.add_assoc, Nat.add_zero, Nat.zero_add, List.length_append, and_true, true_and, AV.flat, *, -hK] | with_reducible refine IfB_dec (fun h => ?_) (fun h => ?_) | with_reducible refine Guard_dec (fun h => ?_) (fun h => ?_) | with_reducible refine Guard_ndec (fun h => ?_) (fun h => ?_) | with_reducible refine Guard_not (fun h => ?_) (fun h => ?_) | with_reducible refine IfB_ndec (fun h => ?_) (fun h => ?_) | with_reducible refine IfB_not (fun h => ?_) (fun h => ?_) | with_reducible refine Guard_split (fun h => ?_) (fun h => ?_) | with_reducible refine IfB_split (fun h => ?_) (fun h => ?_))
  refine WX_loopS [0, 1, 7] (fun k fr' H' => ∃ i : Nat, k = xs.length - i ∧ i ≤ xs.length ∧ fr'.get 8 = .int .i64 i ∧ H' = H ∧ ∀ j (hj : j < i) (hx : j < xs.length), p xs[j] = false) xs.length ⟨0, rfl, by omega, by simp only [go_sem, Nat.reduceLT, Nat.reduceEqDiff, Nat.reduceAdd, Nat.reduceMul, Nat.reduceSub, Nat.reduceLeDiff, Int.reduceToNat, Int.reduceNeg, Int.reduceLT, Int.reduceLE, Int.reduceEq, reduceCtorEq]; rfl, rfl, fun j hj => by omega⟩ ?_
  rintro k fr' H' A R hA hs hg hR ⟨i, rfl, hi, f8, rfl, hno⟩
  have s0 := hg 0 (by decide)
  have s1 := hg 1 (by decide)
  have s7 := hg 7 (by decide)
  simp only [Fr.get_put, Fr.get_init, List.getD_cons_zero, List.getD_cons_succ, Nat.reduceEqDiff, if_true, if_false] at s0 s1 s7
  refine wx_sound hT _ ?_
  repeat' (first | simp only [go_sem, Nat.reduceLT, Nat.reduceEqDiff, Nat.reduceAdd, Nat.reduceMul, Nat.reduceSub, Nat.reduceLeDiff, Int.reduceToNat, Int.reduceNeg, Int.reduceLT, Int.reduceLE, Int.reduceEq, reduceCtorEq, Int.natCast_zero, Int.natCast_one, Int.cast_ofNat_Int, Bool.not_not, false_eq_decide, true_eq_decide, hread0, hreadk, read_cons0, read_consk, astore_h0, astore_hk, hget0, hgetk, hset0, hsetk, hlen, hcat, Nat.add_assoc, Nat.add_zero, Nat.zero_add, List.length_append, and_true, true_and, AV.flat, *, -hK] | with_reducible refine IfB_dec (fun h => ?_) (fun h => ?_) | with_reducible refine Guard_dec (fun h => ?_) (fun h => ?_) | with_reducible refine Guard_ndec (fun h => ?_) (fun h => ?_) | with_reducible refine Guard_not (fun h => ?_) (fun h => ?_) | with_reducible refine IfB_ndec (fun h => ?_) (fun h => ?_) | with_reducible refine IfB_not (fun h => ?_) (fun h => ?_) | with_reducible refine Guard_split (fun h => ?_) (fun h => ?_) | with_reducible refine IfB_split (fun h => ?_) (fun h => ?_))
  case refine_1 =>
    have hlt : i < xs.length := by omega
    have e1 := at_enc (E := (Enc.int .i64)) (k := .i64) se27 hlt rfl
    have e3 := inc_id hlt hn
    repeat' (first | simp only [go_sem, Nat.reduceLT, Nat.reduceEqDiff, Nat.reduceAdd, Nat.reduceMul, Nat.reduceSub, Nat.reduceLeDiff, Int.reduceToNat, Int.reduceNeg, Int.reduceLT, Int.reduceLE, Int.reduceEq, reduceCtorEq, Int.natCast_zero, Int.natCast_one, Int.cast_ofNat_Int, Bool.not_not, false_eq_decide, true_eq_decide, hread0, hreadk, read_cons0, read_consk, astore_h0, astore_hk, hget0, hgetk, hset0, hsetk, hlen, hcat, Nat.add_assoc, Nat.add_zero, Nat.zero_add, List.length_append, and_true, true_and, AV.flat, int_cells, *, -hK] | refine WC.call (hp _ (List.getElem_mem hlt)) ?_ | with_reducible refine IfB_dec (fun h => ?_) (fun h => ?_) | with_reducible refine Guard_dec (fun h => ?_) (fun h => ?_) | with_reducible refine Guard_ndec (fun h => ?_) (fun h => ?_) | with_reducible refine Guard_not (fun h => ?_) (fun h => ?_) | with_reducible refine IfB_ndec (fun h => ?_) (fun h => ?_) | with_reducible refine IfB_not (fun h => ?_) (fun h => ?_) | with_reducible refine Guard_split (fun h => ?_) (fun h => ?_) | with_reducible refine IfB_split (fun h => ?_) (fun h => ?_))
    case refine_1 =>
      refine hK _ _ ⟨?_, rfl⟩
      have : xs.findIdx? p = some i := by
        rw [List.findIdx?_eq_some_iff_getElem]
        exact ⟨hlt, h, fun j hj => by rw [hno j hj (by omega)]; simp⟩
      rw [this]; rfl
    case refine_2 =>
      refine hR _ _ (by (repeat (first | exact hs | refine hA _ _ _ (by decide) ?_))) (xs.length - (i + 1)) (by omega) ⟨i + 1, rfl, by omega, by simp only [go_sem, Nat.reduceLT, Nat.reduceEqDiff, Nat.reduceAdd, Nat.reduceMul, Nat.reduceSub, Nat.reduceLeDiff, Int.reduceToNat, Int.reduceNeg, Int.reduceLT, Int.reduceLE, Int.reduceEq, reduceCtorEq], rfl, fun j hj hx => ?_⟩
      · by_cases e : j = i
        · subst e; exact h
        · exact hno j (by omega) hx
  case refine_2 =>
    repeat' (first | simp only [go_sem, Nat.reduceLT, Nat.reduceEqDiff, Nat.reduceAdd, Nat.reduceMul, Nat.reduceSub, Nat.reduceLeDiff, Int.reduceToNat, Int.reduceNeg, Int.reduceLT, Int.reduceLE, Int.reduceEq, reduceCtorEq, Int.natCast_zero, Int.natCast_one, Int.cast_ofNat_Int, Bool.not_not, false_eq_decide, true_eq_decide, hread0, hreadk, read_cons0, read_consk, astore_h0, astore_hk, hget0, hgetk, hset0, hsetk, hlen, hcat, Nat.add_assoc, Nat.add_zero, Nat.zero_add, List.length_append, and_true, true_and, AV.flat, *, -hK] | with_reducible refine IfB_dec (fun h => ?_) (fun h => ?_) | with_reducible refine Guard_dec (fun h => ?_) (fun h => ?_) | with_reducible refine Guard_ndec (fun h => ?_) (fun h => ?_) | with_reducible refine Guard_not (fun h => ?_) (fun h => ?_) | with_reducible refine IfB_ndec (fun h => ?_) (fun h => ?_) | with_reducible refine IfB_not (fun h => ?_) (fun h => ?_) | with_reducible refine Guard_split (fun h => ?_) (fun h => ?_) | with_reducible refine IfB_split (fun h => ?_) (fun h => ?_))
    refine hK _ _ ⟨?_, rfl⟩
    have : xs.findIdx? p = none := by
      rw [List.findIdx?_eq_none_iff]
      intro x hx
      obtain ⟨j, hj, rfl⟩ := List.getElem_of_mem hx
      exact hno j (by omega) hj
    rw [this]; rfl
theorem iHasF_spec (xs : List Int) (g : FuncId) (cs : List AV) (p : Int → Bool) (hn : xs.length ≤ 140737488355328) (H : Heap) (hp : ∀ x ∈ xs, WC Try.prog g (AV.int .i64 x :: cs) H fun r H' => r = .bool (p x) ∧ H' = H) :
    WC Try.prog 33 [((Enc.int .i64)).lst xs, .fn g [] cs] H fun r H' => r = .bool (xs.any p) ∧ H' = H := by
  refine WC_of_K fun K hK => ?_
  refine WC_of_body hT Try.func33 rfl (by simp [Try.f33]) (by simp [Try.f33]) (wx_sound hT _ ?_)
  simp only [Try.f33]
  repeat' (first | simp only [go_sem, Nat.reduceLT, Nat.reduceEqDiff, Nat.reduceAdd, Nat.reduceMul, Nat.reduceSub, Nat.reduceLeDiff, Int.reduceToNat, Int.reduceNeg, Int.reduceLT, Int.reduceLE, Int.reduceEq, reduceCtorEq, Int.natCast_zero, Int.natCast_one, Int.cast_ofNat_Int, Bool.not_not, false_eq_decide, true_eq_decide, hread0, hreadk, read_cons0, read_consk, astore_h0, astore_hk, hget0, hgetk, hset0, hsetk, hlen, hcat, Nat.add_assoc, Nat.add_zero, Nat.zero_add, List.length_append, and_true, true_and, AV.flat, *, -hK] | refine WC.call (iIdxF_spec xs g cs p hn _ hp) ?_ | with_reducible refine IfB_dec (fun h => ?_) (fun h => ?_) | with_reducible refine Guard_dec (fun h => ?_) (fun h => ?_) | with_reducible refine Guard_ndec (fun h => ?_) (fun h => ?_) | with_reducible refine Guard_not (fun h => ?_) (fun h => ?_) | with_reducible refine IfB_ndec (fun h => ?_) (fun h => ?_) | with_reducible refine IfB_not (fun h => ?_) (fun h => ?_) | with_reducible refine Guard_split (fun h => ?_) (fun h => ?_) | with_reducible refine IfB_split (fun h => ?_) (fun h => ?_))
  refine hK _ _ ⟨?_, rfl⟩
  congr 1
  cases hf : xs.findIdx? p with
  | none =>
    rw [List.findIdx?_eq_none_iff] at hf
    have : xs.any p = false := by rw [List.any_eq_false]; intro x hx; simp [hf x hx]
    rw [this]; rfl
  | some i =>
    rw [List.findIdx?_eq_some_iff_getElem] at hf
    obtain ⟨hi, hp1, _⟩ := hf
    have : xs.any p = true := by rw [List.any_eq_true]; exact ⟨_, List.getElem_mem hi, hp1⟩
    rw [this]; simp [idxI]
theorem ready_spec (q : Que) (hq : q.may) (hb : qFit q.bx) (i : Nat) (hi : i < q.bx.length) (H : Heap) : WC Try.prog 30 [q.av, .int .i64 i] H fun r H' => r = .bool (readyB q.bx i) ∧ H' = H := by
  refine WC_val fun K hK => ?_
  obtain ⟨nx, bs⟩ := q
  have hl4 := hq.2.1
  have hall := hq.2.2.2.2
  obtain ⟨hb1, hb2⟩ := hb
  simp only at hi hl4 hall hb1 hb2 hK
  have e1 := at_enc (E := boxE) (T := T) (k := .i64) se22 hi rfl
  rw [boxE_cells] at e1
  have hr : readyB bs i = match bs[i] with
    | [] => false
    | t :: _ => !((shardsL t bs.length).any fun j => decide (¬ headN bs j = t.num)) := by unfold readyB; rw [List.getElem?_eq_getElem hi]; rfl
  rw [hr] at hK
  clear hr
  obtain ⟨-, hbx⟩ := hall _ (List.getElem_mem hi)
  obtain ⟨hl1, hl2⟩ := hb2 _ (List.getElem_mem hi)
  have hmem := fun t (h : t ∈ bs[i]) => (boxB_mem hbx t h).2
  unfold Que.av
  simp only
  generalize bs[i] = l at *
  cases l with
  | nil =>
    simp only at hK
    refine WC_of_body hT Try.func30 rfl (by simp [Try.f30]) (by simp [Try.f30]) (wx_sound hT _ ?_)
    simp only [Try.f30]
    repeat' (first | simp only [go_sem, Nat.reduceLT, Nat.reduceEqDiff, Nat.reduceAdd, Nat.reduceMul, Nat.reduceSub, Nat.reduceLeDiff, Int.reduceToNat, Int.reduceNeg, Int.reduceLT, Int.reduceLE, Int.reduceEq, reduceCtorEq, Int.natCast_zero, Int.natCast_one, Int.cast_ofNat_Int, Bool.not_not, false_eq_decide, true_eq_decide, hread0, hreadk, read_cons0, read_consk, astore_h0, astore_hk, hget0, hgetk, hset0, hsetk, hlen, hcat, Nat.add_assoc, Nat.add_zero, Nat.zero_add, List.length_append, and_true, true_and, AV.flat, *, -hK, -hall, -hb2, -hl2, -hmem, -hbx] | with_reducible refine IfB_dec (fun h => ?_) (fun h => ?_) | with_reducible refine Guard_dec (fun h => ?_) (fun h => ?_) | with_reducible refine Guard_ndec (fun h => ?_) (fun h => ?_) | with_reducible refine Guard_not (fun h => ?_) (fun h => ?_) | with_reducible refine IfB_ndec (fun h => ?_) (fun h => ?_) | with_reducible refine IfB_not (fun h => ?_) (fun h => ?_) | with_reducible refine Guard_split (fun h => ?_) (fun h => ?_) | with_reducible refine IfB_split (fun h => ?_) (fun h => ?_))
    exact hK _ _ (.bool _) (Keep.app _ _ _)
  | cons t l =>
  simp only at hK
  have e2 := at_enc (E := tktE) (T := T) (xs := t :: l) (i := 0) (k := .i64) (z := 0) se31 (by simp) rfl
  rw [tktE_cells] at e2
  simp only [List.getElem_cons_zero] at e2
  obtain ⟨hq1, hq2⟩ := hl2 t (.head _)
  have sh := fun J => tshards_spec t bs.length hl4 hq1 hq2 J
  have hw := hmem t (.head _)
  have hlen : ¬ ((t :: l).length : Int) = 0 := by simp only [List.length_cons]; omega
  have cl := fun (J : Heap) (g0 : J[H.length]? = some ⟨[.int .i64 nx, boxE.lst bs], 0, .full⟩) (g1 : J[H.length + 1]? = some ⟨t.cs, 0, .full⟩) =>
    iHasF_spec (shardsL t bs.length) 46 [.ptr H.length 0, .ptr (H.length + 1) 0] (fun j => decide (¬ headN bs j = t.num)) (by rw [← hw]; have := whereN_len bs t bs.length; show (whereN bs t bs.length).length ≤ _; omega) J (fun j hj => by
      rw [← hw] at hj
      obtain ⟨k, rfl, hk, htk⟩ := mem_whereL.1 hj
      cases hbk : bs[k] with
      | nil => rw [hbk] at htk; simp at htk
      | cons h r =>
        have hh : headN bs (k : Int) = h.num := by unfold headN; rw [Int.toNat_natCast, List.getElem?_eq_getElem hk]; simp only [Option.getD_some, hbk]
        rw [hh]
        exact readyF_spec nx bs t h r k hk hbk H.length (H.length + 1) J g0 g1)
  unfold Tkt.cs at cl
  unfold Tkt.av at sh
  generalize hL : t :: l = tl at *
  refine WC_of_body hT Try.func30 rfl (by simp [Try.f30]) (by simp [Try.f30]) (wx_sound hT _ ?_)
  simp only [Try.f30]
  repeat' (first | simp only [go_sem, Nat.reduceLT, Nat.reduceEqDiff, Nat.reduceAdd, Nat.reduceMul, Nat.reduceSub, Nat.reduceLeDiff, Int.reduceToNat, Int.reduceNeg, Int.reduceLT, Int.reduceLE, Int.reduceEq, reduceCtorEq, Int.natCast_zero, Int.natCast_one, Int.cast_ofNat_Int, Bool.not_not, false_eq_decide, true_eq_decide, hread0, hreadk, read_cons0, read_consk, astore_h0, astore_hk, hget0, hgetk, hset0, hsetk, hlen, hcat, Nat.add_assoc, Nat.add_zero, Nat.zero_add, List.length_append, and_true, true_and, AV.flat, *, -hK, -hall, -hb2, -hl2, -hmem, -hbx, -sh, -cl, -hw, -hL] | with_reducible refine IfB_dec (fun h => ?_) (fun h => ?_) | with_reducible refine Guard_dec (fun h => ?_) (fun h => ?_) | with_reducible refine Guard_ndec (fun h => ?_) (fun h => ?_) | with_reducible refine Guard_not (fun h => ?_) (fun h => ?_) | with_reducible refine IfB_ndec (fun h => ?_) (fun h => ?_) | with_reducible refine IfB_not (fun h => ?_) (fun h => ?_) | with_reducible refine Guard_split (fun h => ?_) (fun h => ?_) | with_reducible refine IfB_split (fun h => ?_) (fun h => ?_))
  refine (sh _).mono ?_
  rintro r1 H1 ⟨rfl, rfl⟩
  repeat' (first | simp only [go_sem, Nat.reduceLT, Nat.reduceEqDiff, Nat.reduceAdd, Nat.reduceMul, Nat.reduceSub, Nat.reduceLeDiff, Int.reduceToNat, Int.reduceNeg, Int.reduceLT, Int.reduceLE, Int.reduceEq, reduceCtorEq, Int.natCast_zero, Int.natCast_one, Int.cast_ofNat_Int, Bool.not_not, false_eq_decide, true_eq_decide, hread0, hreadk, read_cons0, read_consk, astore_h0, astore_hk, hget0, hgetk, hset0, hsetk, hlen, hcat, Nat.add_assoc, Nat.add_zero, Nat.zero_add, List.length_append, and_true, true_and, AV.flat, *, -hK, -hall, -hb2, -hl2, -hmem, -hbx, -sh, -cl, -hw, -hL] | with_reducible refine IfB_dec (fun h => ?_) (fun h => ?_) | with_reducible refine Guard_dec (fun h => ?_) (fun h => ?_) | with_reducible refine Guard_ndec (fun h => ?_) (fun h => ?_) | with_reducible refine Guard_not (fun h => ?_) (fun h => ?_) | with_reducible refine IfB_ndec (fun h => ?_) (fun h => ?_) | with_reducible refine IfB_not (fun h => ?_) (fun h => ?_) | with_reducible refine Guard_split (fun h => ?_) (fun h => ?_) | with_reducible refine IfB_split (fun h => ?_) (fun h => ?_))
  refine (cl _ (by rw [hget0]; rfl) (by rw [hgetk]; rfl)).mono ?_
  rintro r1 H1 ⟨rfl, rfl⟩
  repeat' (first | simp only [go_sem, Nat.reduceLT, Nat.reduceEqDiff, Nat.reduceAdd, Nat.reduceMul, Nat.reduceSub, Nat.reduceLeDiff, Int.reduceToNat, Int.reduceNeg, Int.reduceLT, Int.reduceLE, Int.reduceEq, reduceCtorEq, Int.natCast_zero, Int.natCast_one, Int.cast_ofNat_Int, Bool.not_not, false_eq_decide, true_eq_decide, hread0, hreadk, read_cons0, read_consk, astore_h0, astore_hk, hget0, hgetk, hset0, hsetk, hlen, hcat, Nat.add_assoc, Nat.add_zero, Nat.zero_add, List.length_append, and_true, true_and, AV.flat, *, -hK, -hall, -hb2, -hl2, -hmem, -hbx, -sh, -cl, -hw, -hL] | with_reducible refine IfB_dec (fun h => ?_) (fun h => ?_) | with_reducible refine Guard_dec (fun h => ?_) (fun h => ?_) | with_reducible refine Guard_ndec (fun h => ?_) (fun h => ?_) | with_reducible refine Guard_not (fun h => ?_) (fun h => ?_) | with_reducible refine IfB_ndec (fun h => ?_) (fun h => ?_) | with_reducible refine IfB_not (fun h => ?_) (fun h => ?_) | with_reducible refine Guard_split (fun h => ?_) (fun h => ?_) | with_reducible refine IfB_split (fun h => ?_) (fun h => ?_))
  exact hK _ _ (.bool _) (Keep.app _ _ _)
open Go Go.Proofs Go.Proofs.PI
def readyN (b : List (List Tkt)) (n : Nat) : List Int := ((List.range n).filter fun i => readyB b i).map fun i : Nat => (i : Int)
theorem readyN_step (b : List (List Tkt)) (i : Nat) : readyN b (i + 1) = readyN b i ++ if readyB b i = true then [(i : Int)] else [] := by
  unfold readyN
  rw [List.range_succ, List.filter_append, List.map_append]
  congr 1
  cases hh : readyB b i <;> simp [hh]
theorem readyN_len (b : List (List Tkt)) (n : Nat) : (readyN b n).length ≤ n := by
  unfold readyN
  have := List.length_filter_le (fun i => readyB b i) (List.range n)
  rw [List.length_map]; rw [List.length_range] at this; exact this
def readyL (q : Que) : List Int := if q.may then readyN q.bx q.bx.length else []
theorem readyAll_spec (q : Que) (hb : qFit q.bx) (H : Heap) : WC Try.prog 9 [q.av] H fun r H' => r = .tup [(Enc.int .i64).lst (readyL q), .int .i64 (queE q)] ∧ H' = H := by
  refine WC_val fun K hK => ?_
  have ck := fun J => tcheck_spec q hb J
  by_cases hq : q.may
  rotate_left
  · rw [queE_bad hq] at ck hK
    rw [show readyL q = [] by unfold readyL; rw [if_neg hq]] at hK
    unfold Que.av at *
    refine WC_of_body hT Try.func9 rfl (by simp [Try.f9]) (by simp [Try.f9]) (wx_sound hT _ ?_)
    simp only [Try.f9]
    repeat' (first | simp only [go_sem, Nat.reduceLT, Nat.reduceEqDiff, Nat.reduceAdd, Nat.reduceMul, Nat.reduceSub, Nat.reduceLeDiff, Int.reduceToNat, Int.reduceNeg, Int.reduceLT, Int.reduceLE, Int.reduceEq, reduceCtorEq, Int.natCast_zero, Int.natCast_one, Int.cast_ofNat_Int, Bool.not_not, false_eq_decide, true_eq_decide, hread0, hreadk, read_cons0, read_consk, astore_h0, astore_hk, hget0, hgetk, hset0, hsetk, hlen, hcat, Nat.add_assoc, Nat.add_zero, Nat.zero_add, List.length_append, and_true, true_and, AV.flat, *, -hK, -ck, -hq, -hb] | refine WC.call (ck _) ?_ | with_reducible refine IfB_dec (fun h => ?_) (fun h => ?_) | with_reducible refine Guard_dec (fun h => ?_) (fun h => ?_) | with_reducible refine Guard_ndec (fun h => ?_) (fun h => ?_) | with_reducible refine Guard_not (fun h => ?_) (fun h => ?_) | with_reducible refine IfB_ndec (fun h => ?_) (fun h => ?_) | with_reducible refine IfB_not (fun h => ?_) (fun h => ?_) | with_reducible refine Guard_split (fun h => ?_) (fun h => ?_) | with_reducible refine IfB_split (fun h => ?_) (fun h => ?_))
    exact hK _ _ (Thaw.tup_row ⟨.nils, .int _ _, trivial⟩) (Keep.app _ _ _)
  rw [queE_ok hq] at ck hK
  rw [show readyL q = readyN q.bx q.bx.length by unfold readyL; rw [if_pos hq]] at hK
  have rd := fun (i : Nat) (hi : i < q.bx.length) J => ready_spec q hq hb i hi J
  have hl4 := hq.2.1
  obtain ⟨nx, bs⟩ := q
  simp only at hl4 rd hK
  unfold Que.av at *
  simp only at ck rd ⊢
  refine WC_of_body hT Try.func9 rfl (by simp [Try.f9]) (by simp [Try.f9]) (wx_sound hT _ ?_)
  simp only [Try.f9]
  repeat' (first | simp only [go_sem, Nat.reduceLT, Nat.reduceEqDiff, Nat.reduceAdd, Nat.reduceMul, Nat.reduceSub, Nat.reduceLeDiff, Int.reduceToNat, Int.reduceNeg, Int.reduceLT, Int.reduceLE, Int.reduceEq, reduceCtorEq, Int.natCast_zero, Int.natCast_one, Int.cast_ofNat_Int, Bool.not_not, false_eq_decide, true_eq_decide, hread0, hreadk, read_cons0, read_consk, astore_h0, astore_hk, hget0, hgetk, hset0, hsetk, hlen, hcat, Nat.add_assoc, Nat.add_zero, Nat.zero_add, List.length_append, and_true, true_and, AV.flat, *, -hK, -ck, -hq, -hb, -rd] | refine WC.call (ck _) ?_ | with_reducible refine IfB_dec (fun h => ?_) (fun h => ?_) | with_reducible refine Guard_dec (fun h => ?_) (fun h => ?_) | with_reducible refine Guard_ndec (fun h => ?_) (fun h => ?_) | with_reducible refine Guard_not (fun h => ?_) (fun h => ?_) | with_reducible refine IfB_ndec (fun h => ?_) (fun h => ?_) | with_reducible refine IfB_not (fun h => ?_) (fun h => ?_) | with_reducible refine Guard_split (fun h => ?_) (fun h => ?_) | with_reducible refine IfB_split (fun h => ?_) (fun h => ?_))
  refine WX_loopS [1, 14] (fun k fr' J => ∃ (i : Nat) (w : AV), k = bs.length - i ∧ i ≤ bs.length ∧ fr'.get 15 = .int .i64 i ∧ fr'.get 5 = w ∧ OwnE (Enc.int .i64) (H.length + 1) J w (readyN bs i) ∧ Keep none H J ∧ H.length + 1 ≤ J.length ∧ J[H.length]? = some (⟨[.int .i64 nx, boxE.lst bs], 0, .full⟩ : Blk)) bs.length ⟨0, .nils, rfl, by omega, by simp only [go_sem, Nat.reduceLT, Nat.reduceEqDiff, Nat.reduceAdd, Nat.reduceMul, Nat.reduceSub, Nat.reduceLeDiff, Int.reduceToNat, Int.reduceNeg, Int.reduceLT, Int.reduceLE, Int.reduceEq, reduceCtorEq]; rfl, by simp only [go_sem, Nat.reduceLT, Nat.reduceEqDiff, Nat.reduceAdd, Nat.reduceMul, Nat.reduceSub, Nat.reduceLeDiff, Int.reduceToNat, Int.reduceNeg, Int.reduceLT, Int.reduceLE, Int.reduceEq, reduceCtorEq], by simp only [readyN, List.range_zero, List.filter_nil, List.map_nil]; exact OwnE.nils _ _ _, Keep.app _ _ _, by simp, by rw [hget0]; rfl⟩ ?_
  rintro k fr' J A R hA hs hg hR ⟨i, w, rfl, hi, f15, f5, ow, kJ, hJl, g0⟩
  have s1 := hg 1 (by decide)
  have s14 := hg 14 (by decide)
  simp only [Fr.get_put, Fr.get_init, List.getD_cons_zero, List.getD_cons_succ, Nat.reduceEqDiff, if_true, if_false] at s1 s14
  refine wx_sound hT _ ?_
  have hwo := ow.one
  by_cases hlt : i < bs.length
  rotate_left
  · have i1 : ¬ (i : Int) < bs.length := by omega
    have hie : i = bs.length := by omega
    rw [hie] at ow
    repeat' (first | simp only [go_sem, Nat.reduceLT, Nat.reduceEqDiff, Nat.reduceAdd, Nat.reduceMul, Nat.reduceSub, Nat.reduceLeDiff, Int.reduceToNat, Int.reduceNeg, Int.reduceLT, Int.reduceLE, Int.reduceEq, reduceCtorEq, Int.natCast_zero, Int.natCast_one, Int.cast_ofNat_Int, Bool.not_not, false_eq_decide, true_eq_decide, hread0, hreadk, read_cons0, read_consk, astore_h0, astore_hk, hget0, hgetk, hset0, hsetk, hlen, hcat, Nat.add_assoc, Nat.add_zero, Nat.zero_add, List.length_append, and_true, true_and, AV.flat, hwo, one_solid hwo, one_cells hwo, *, -hK, -ck, -hq, -hb, -rd, -ow, -kJ, -hJl, -g0, -hie] | with_reducible refine IfB_dec (fun h => ?_) (fun h => ?_) | with_reducible refine Guard_dec (fun h => ?_) (fun h => ?_) | with_reducible refine Guard_ndec (fun h => ?_) (fun h => ?_) | with_reducible refine Guard_not (fun h => ?_) (fun h => ?_) | with_reducible refine IfB_ndec (fun h => ?_) (fun h => ?_) | with_reducible refine IfB_not (fun h => ?_) (fun h => ?_) | with_reducible refine Guard_split (fun h => ?_) (fun h => ?_) | with_reducible refine IfB_split (fun h => ?_) (fun h => ?_))
    exact hK _ _ (Thaw.tup_row ⟨OwnE.thaw (E := Enc.int .i64) (Own.mono ow (m' := H.length) (by omega)) (by decide), .int _ _, trivial⟩) kJ
  have i1 : (i : Int) < bs.length := by omega
  have e3 := inc_id hlt (by omega)
  have rdi := rd i hlt
  have hst := readyN_step bs i
  have hwl := readyN_len bs i
  have back : ∀ fr2 J2 w2, A fr2 → fr2.get 15 = .int .i64 ((i + 1 : Nat) : Int) → fr2.get 5 = w2 → OwnE (Enc.int .i64) (H.length + 1) J2 w2 (readyN bs (i + 1)) → Keep none H J2 → H.length + 1 ≤ J2.length → J2[H.length]? = J[H.length]? → R fr2 J2 := fun fr2 J2 w2 ha q1 q2 q3 q4 q5 q6 => hR fr2 J2 ha (bs.length - (i + 1)) (by omega) ⟨i + 1, w2, rfl, by omega, q1, q2, q3, q4, q5, by rw [q6]; exact g0⟩
  rw [hst] at back
  clear hR hst rd
  generalize readyB bs i = rb at *
  cases rb with
  | true =>
    rw [if_pos rfl] at back
    repeat' (first | simp only [go_sem, Nat.reduceLT, Nat.reduceEqDiff, Nat.reduceAdd, Nat.reduceMul, Nat.reduceSub, Nat.reduceLeDiff, Int.reduceToNat, Int.reduceNeg, Int.reduceLT, Int.reduceLE, Int.reduceEq, reduceCtorEq, Int.natCast_zero, Int.natCast_one, Int.cast_ofNat_Int, Bool.not_not, false_eq_decide, true_eq_decide, hread0, hreadk, read_cons0, read_consk, astore_h0, astore_hk, hget0, hgetk, hset0, hsetk, hlen, hcat, Nat.add_assoc, Nat.add_zero, Nat.zero_add, List.length_append, and_true, true_and, AV.flat, g0, get_app g0, read_get g0, read_app g0, hwo, one_solid hwo, one_cells hwo, *, -hK, -ck, -hq, -hb, -ow, -kJ, -hJl, -rdi, -back, -hwl] | refine WC.call (rdi _) ?_ | with_reducible refine IfB_dec (fun h => ?_) (fun h => ?_) | with_reducible refine Guard_dec (fun h => ?_) (fun h => ?_) | with_reducible refine Guard_ndec (fun h => ?_) (fun h => ?_) | with_reducible refine Guard_not (fun h => ?_) (fun h => ?_) | with_reducible refine IfB_ndec (fun h => ?_) (fun h => ?_) | with_reducible refine IfB_not (fun h => ?_) (fun h => ?_) | with_reducible refine Guard_split (fun h => ?_) (fun h => ?_) | with_reducible refine IfB_split (fun h => ?_) (fun h => ?_))
    refine append1_enc (E := Enc.int .i64) (x := (i : Int)) ow rfl se27 az3 td3 tk27 rfl rfl (by decide) (by show (_ + 1) * 9 ≤ _; omega) hJl ?_
    intro v5 H5 o5 k5 hn5
    have hv5 := o5.one
    repeat' (first | simp only [go_sem, Nat.reduceLT, Nat.reduceEqDiff, Nat.reduceAdd, Nat.reduceMul, Nat.reduceSub, Nat.reduceLeDiff, Int.reduceToNat, Int.reduceNeg, Int.reduceLT, Int.reduceLE, Int.reduceEq, reduceCtorEq, Int.natCast_zero, Int.natCast_one, Int.cast_ofNat_Int, Bool.not_not, false_eq_decide, true_eq_decide, hread0, hreadk, read_cons0, read_consk, astore_h0, astore_hk, hget0, hgetk, hset0, hsetk, hlen, hcat, Nat.add_assoc, Nat.add_zero, Nat.zero_add, List.length_append, and_true, true_and, AV.flat, hv5, one_solid hv5, one_cells hv5, *, -hK, -ck, -hq, -hb, -ow, -kJ, -hJl, -rdi, -back, -hwl, -o5, -k5, -hn5, -g0] | with_reducible refine IfB_dec (fun h => ?_) (fun h => ?_) | with_reducible refine Guard_dec (fun h => ?_) (fun h => ?_) | with_reducible refine Guard_ndec (fun h => ?_) (fun h => ?_) | with_reducible refine Guard_not (fun h => ?_) (fun h => ?_) | with_reducible refine IfB_ndec (fun h => ?_) (fun h => ?_) | with_reducible refine IfB_not (fun h => ?_) (fun h => ?_) | with_reducible refine Guard_split (fun h => ?_) (fun h => ?_) | with_reducible refine IfB_split (fun h => ?_) (fun h => ?_))
    exact back _ _ _ (by (repeat (first | exact hs | refine hA _ _ _ (by decide) ?_))) (by simp only [go_sem, Nat.reduceLT, Nat.reduceEqDiff, Nat.reduceAdd, Nat.reduceMul, Nat.reduceSub, Nat.reduceLeDiff, Int.reduceToNat, Int.reduceNeg, Int.reduceLT, Int.reduceLE, Int.reduceEq, reduceCtorEq]) rfl (by simp only [go_sem, Nat.reduceLT, Nat.reduceEqDiff, Nat.reduceAdd, Nat.reduceMul, Nat.reduceSub, Nat.reduceLeDiff, Int.reduceToNat, Int.reduceNeg, Int.reduceLT, Int.reduceLE, Int.reduceEq, reduceCtorEq]; exact o5) (kJ.via k5 (fun b hb => by have := ow.ge hb; omega)) (Nat.le_trans hJl k5.len) (k5.at_ _ (by omega) (fun e => by have := ow.ge e; omega))
  | false =>
    rw [if_neg (by decide), List.append_nil] at back
    repeat' (first | simp only [go_sem, Nat.reduceLT, Nat.reduceEqDiff, Nat.reduceAdd, Nat.reduceMul, Nat.reduceSub, Nat.reduceLeDiff, Int.reduceToNat, Int.reduceNeg, Int.reduceLT, Int.reduceLE, Int.reduceEq, reduceCtorEq, Int.natCast_zero, Int.natCast_one, Int.cast_ofNat_Int, Bool.not_not, false_eq_decide, true_eq_decide, hread0, hreadk, read_cons0, read_consk, astore_h0, astore_hk, hget0, hgetk, hset0, hsetk, hlen, hcat, Nat.add_assoc, Nat.add_zero, Nat.zero_add, List.length_append, and_true, true_and, AV.flat, g0, get_app g0, read_get g0, read_app g0, hwo, one_solid hwo, one_cells hwo, *, -hK, -ck, -hq, -hb, -ow, -kJ, -hJl, -rdi, -back, -hwl] | refine WC.call (rdi _) ?_ | with_reducible refine IfB_dec (fun h => ?_) (fun h => ?_) | with_reducible refine Guard_dec (fun h => ?_) (fun h => ?_) | with_reducible refine Guard_ndec (fun h => ?_) (fun h => ?_) | with_reducible refine Guard_not (fun h => ?_) (fun h => ?_) | with_reducible refine IfB_ndec (fun h => ?_) (fun h => ?_) | with_reducible refine IfB_not (fun h => ?_) (fun h => ?_) | with_reducible refine Guard_split (fun h => ?_) (fun h => ?_) | with_reducible refine IfB_split (fun h => ?_) (fun h => ?_))
    exact back _ _ _ (by (repeat (first | exact hs | refine hA _ _ _ (by decide) ?_))) (by simp only [go_sem, Nat.reduceLT, Nat.reduceEqDiff, Nat.reduceAdd, Nat.reduceMul, Nat.reduceSub, Nat.reduceLeDiff, Int.reduceToNat, Int.reduceNeg, Int.reduceLT, Int.reduceLE, Int.reduceEq, reduceCtorEq]) (by simp only [go_sem, Nat.reduceLT, Nat.reduceEqDiff, Nat.reduceAdd, Nat.reduceMul, Nat.reduceSub, Nat.reduceLeDiff, Int.reduceToNat, Int.reduceNeg, Int.reduceLT, Int.reduceLE, Int.reduceEq, reduceCtorEq]; exact f5) ow kJ hJl rfl
open Go Go.Proofs Go.Proofs.PI
def tFit (t : Tkt) : Prop := t.cmd.keys.length ≤ 140737488355328
def qIn (b : List (List Tkt)) : Prop := b.length ≤ 140737488355328 ∧ ∀ l ∈ b, l.length ≤ 140737488355328 ∧ ∀ t ∈ l, tFit t
def bFit (l : List Tkt) : Prop := l.length ≤ 1000 ∧ ∀ t ∈ l, t.cmd.keys.length ≤ 1000 ∧ ∀ k ∈ t.cmd.keys, k.length ≤ 100000
theorem great_spec (q : Que) (hin : qIn q.bx) (H : Heap) : WC Try.prog 8 [q.av] H fun r H' => (∃ b, r = .bool b ∧ (b = false → qFit q.bx)) ∧ H' = H := by
  refine WC_froze (Q := fun r => ∃ b, r = .bool b ∧ (b = false → qFit q.bx)) ?_
  refine WC_of_K fun K hK => ?_
  obtain ⟨nx, bs⟩ := q
  obtain ⟨hb1, hb2⟩ := hin
  simp only at hb1 hb2 hK
  unfold Que.av
  simp only
  by_cases h20 : (bs.length : Int) > 20
  · skip
    refine WC_of_body hT Try.func8 rfl (by simp [Try.f8]) (by simp [Try.f8]) (wx_sound hT _ ?_)
    simp only [Try.f8]
    repeat' (first | simp only [go_sem, Nat.reduceLT, Nat.reduceEqDiff, Nat.reduceAdd, Nat.reduceMul, Nat.reduceSub, Nat.reduceLeDiff, Int.reduceToNat, Int.reduceNeg, Int.reduceLT, Int.reduceLE, Int.reduceEq, reduceCtorEq, Int.natCast_zero, Int.natCast_one, Int.cast_ofNat_Int, Bool.not_not, false_eq_decide, true_eq_decide, hread0, hreadk, read_cons0, read_consk, astore_h0, astore_hk, hget0, hgetk, hset0, hsetk, hlen, hcat, Nat.add_assoc, Nat.add_zero, Nat.zero_add, List.length_append, and_true, true_and, AV.flat, *, -hK, -hb2] | with_reducible refine IfB_dec (fun h => ?_) (fun h => ?_) | with_reducible refine Guard_dec (fun h => ?_) (fun h => ?_) | with_reducible refine Guard_ndec (fun h => ?_) (fun h => ?_) | with_reducible refine Guard_not (fun h => ?_) (fun h => ?_) | with_reducible refine IfB_ndec (fun h => ?_) (fun h => ?_) | with_reducible refine IfB_not (fun h => ?_) (fun h => ?_) | with_reducible refine Guard_split (fun h => ?_) (fun h => ?_) | with_reducible refine IfB_split (fun h => ?_) (fun h => ?_))
    exact hK _ _ ⟨_, .bool _, Keep.app _ _ _, _, rfl, fun hb => by cases hb⟩
  refine WC_of_body hT Try.func8 rfl (by simp [Try.f8]) (by simp [Try.f8]) (wx_sound hT _ ?_)
  simp only [Try.f8]
  repeat' (first | simp only [go_sem, Nat.reduceLT, Nat.reduceEqDiff, Nat.reduceAdd, Nat.reduceMul, Nat.reduceSub, Nat.reduceLeDiff, Int.reduceToNat, Int.reduceNeg, Int.reduceLT, Int.reduceLE, Int.reduceEq, reduceCtorEq, Int.natCast_zero, Int.natCast_one, Int.cast_ofNat_Int, Bool.not_not, false_eq_decide, true_eq_decide, hread0, hreadk, read_cons0, read_consk, astore_h0, astore_hk, hget0, hgetk, hset0, hsetk, hlen, hcat, Nat.add_assoc, Nat.add_zero, Nat.zero_add, List.length_append, and_true, true_and, AV.flat, *, -hK, -hb2] | with_reducible refine IfB_dec (fun h => ?_) (fun h => ?_) | with_reducible refine Guard_dec (fun h => ?_) (fun h => ?_) | with_reducible refine Guard_ndec (fun h => ?_) (fun h => ?_) | with_reducible refine Guard_not (fun h => ?_) (fun h => ?_) | with_reducible refine IfB_ndec (fun h => ?_) (fun h => ?_) | with_reducible refine IfB_not (fun h => ?_) (fun h => ?_) | with_reducible refine Guard_split (fun h => ?_) (fun h => ?_) | with_reducible refine IfB_split (fun h => ?_) (fun h => ?_))
  generalize hG : (H ++ [(⟨[.int .i64 nx, boxE.lst bs], 0, .full⟩ : Blk)] : Heap) = G
  have g0 : G[H.length]? = some (⟨[.int .i64 nx, boxE.lst bs], 0, .full⟩ : Blk) := by rw [← hG, hget0]; rfl
  have kG : Keep none H G := by rw [← hG]; exact Keep.app _ _ _
  clear hG
  refine WX_loopS [1] (fun k fr' J => ∃ (i : Nat) (n : Int), k = bs.length - i ∧ i ≤ bs.length ∧ fr'.get 4 = .int .i64 i ∧ fr'.get 3 = .int .i64 n ∧ J = G ∧ 0 ≤ n ∧ n ≤ 100 ∧ ∀ j (hj : j < i) (hx : j < bs.length), bFit bs[j]) bs.length ⟨0, 0, rfl, by omega, by simp only [go_sem, Nat.reduceLT, Nat.reduceEqDiff, Nat.reduceAdd, Nat.reduceMul, Nat.reduceSub, Nat.reduceLeDiff, Int.reduceToNat, Int.reduceNeg, Int.reduceLT, Int.reduceLE, Int.reduceEq, reduceCtorEq]; rfl, by simp only [go_sem, Nat.reduceLT, Nat.reduceEqDiff, Nat.reduceAdd, Nat.reduceMul, Nat.reduceSub, Nat.reduceLeDiff, Int.reduceToNat, Int.reduceNeg, Int.reduceLT, Int.reduceLE, Int.reduceEq, reduceCtorEq], rfl, by omega, by omega, fun j hj => by omega⟩ ?_
  rintro k fr' J A R hA hs hg hR ⟨i, n, rfl, hi, f4, f3, rfl, hn0, hn1, hall⟩
  have s1 := hg 1 (by decide)
  simp only [Fr.get_put, Fr.get_init, List.getD_cons_zero, List.getD_cons_succ, Nat.reduceEqDiff, if_true, if_false] at s1
  refine wx_sound hT _ ?_
  by_cases hlt : i < bs.length
  rotate_left
  · have i1 : ¬ (i : Int) < bs.length := by omega
    repeat' (first | simp only [go_sem, Nat.reduceLT, Nat.reduceEqDiff, Nat.reduceAdd, Nat.reduceMul, Nat.reduceSub, Nat.reduceLeDiff, Int.reduceToNat, Int.reduceNeg, Int.reduceLT, Int.reduceLE, Int.reduceEq, reduceCtorEq, Int.natCast_zero, Int.natCast_one, Int.cast_ofNat_Int, Bool.not_not, false_eq_decide, true_eq_decide, hread0, hreadk, read_cons0, read_consk, astore_h0, astore_hk, hget0, hgetk, hset0, hsetk, hlen, hcat, Nat.add_assoc, Nat.add_zero, Nat.zero_add, List.length_append, and_true, true_and, AV.flat, g0, get_app g0, read_get g0, read_app g0, *, -hK, -kG, -hn0, -hn1, -hall, -hb2] | with_reducible refine IfB_dec (fun h => ?_) (fun h => ?_) | with_reducible refine Guard_dec (fun h => ?_) (fun h => ?_) | with_reducible refine Guard_ndec (fun h => ?_) (fun h => ?_) | with_reducible refine Guard_not (fun h => ?_) (fun h => ?_) | with_reducible refine IfB_ndec (fun h => ?_) (fun h => ?_) | with_reducible refine IfB_not (fun h => ?_) (fun h => ?_) | with_reducible refine Guard_split (fun h => ?_) (fun h => ?_) | with_reducible refine IfB_split (fun h => ?_) (fun h => ?_))
    refine hK _ _ ⟨_, .bool _, kG, _, rfl, fun _ => ⟨by omega, fun l hl => ?_⟩⟩
    obtain ⟨j, hj, rfl⟩ := List.getElem_of_mem hl
    exact hall j (by omega) hj
  have i1 : (i : Int) < bs.length := by omega
  have e3 := inc_id hlt hb1
  have e1 := at_enc (E := boxE) (T := T) (k := .i64) se22 hlt rfl
  rw [boxE_cells] at e1
  obtain ⟨hl1, hl2⟩ := hb2 _ (List.getElem_mem hlt)
  have back : bFit bs[i] → ∀ fr2 J2 (n2 : Int), A fr2 → fr2.get 4 = .int .i64 ((i + 1 : Nat) : Int) → fr2.get 3 = .int .i64 n2 → J2 = J → 0 ≤ n2 → n2 ≤ 100 → R fr2 J2 := fun h fr2 J2 n2 ha q1 q2 q3 q4 q5 => hR fr2 J2 ha (bs.length - (i + 1)) (by omega) ⟨i + 1, n2, rfl, by omega, q1, q2, q3, q4, q5, fun j hj hx => (Classical.em (j = i)).elim (fun e => by subst e; exact h) (fun e => hall j (by omega) hx)⟩
  clear hR hall hb2
  generalize bs[i] = l at *
  have w1 : IntKind.i64.wrap (n + l.length) = n + l.length := by rw [IntKind.wrap_i64]; omega
  by_cases h100 : n + (l.length : Int) > 100
  · skip
    repeat' (first | simp only [go_sem, Nat.reduceLT, Nat.reduceEqDiff, Nat.reduceAdd, Nat.reduceMul, Nat.reduceSub, Nat.reduceLeDiff, Int.reduceToNat, Int.reduceNeg, Int.reduceLT, Int.reduceLE, Int.reduceEq, reduceCtorEq, Int.natCast_zero, Int.natCast_one, Int.cast_ofNat_Int, Bool.not_not, false_eq_decide, true_eq_decide, hread0, hreadk, read_cons0, read_consk, astore_h0, astore_hk, hget0, hgetk, hset0, hsetk, hlen, hcat, Nat.add_assoc, Nat.add_zero, Nat.zero_add, List.length_append, and_true, true_and, AV.flat, g0, get_app g0, read_get g0, read_app g0, *, -hK, -kG, -hn0, -hn1, -hl1, -hl2, -back] | with_reducible refine IfB_dec (fun h => ?_) (fun h => ?_) | with_reducible refine Guard_dec (fun h => ?_) (fun h => ?_) | with_reducible refine Guard_ndec (fun h => ?_) (fun h => ?_) | with_reducible refine Guard_not (fun h => ?_) (fun h => ?_) | with_reducible refine IfB_ndec (fun h => ?_) (fun h => ?_) | with_reducible refine IfB_not (fun h => ?_) (fun h => ?_) | with_reducible refine Guard_split (fun h => ?_) (fun h => ?_) | with_reducible refine IfB_split (fun h => ?_) (fun h => ?_))
    exact hK _ _ ⟨_, .bool _, kG, _, rfl, fun hb => by cases hb⟩
  repeat' (first | simp only [go_sem, Nat.reduceLT, Nat.reduceEqDiff, Nat.reduceAdd, Nat.reduceMul, Nat.reduceSub, Nat.reduceLeDiff, Int.reduceToNat, Int.reduceNeg, Int.reduceLT, Int.reduceLE, Int.reduceEq, reduceCtorEq, Int.natCast_zero, Int.natCast_one, Int.cast_ofNat_Int, Bool.not_not, false_eq_decide, true_eq_decide, hread0, hreadk, read_cons0, read_consk, astore_h0, astore_hk, hget0, hgetk, hset0, hsetk, hlen, hcat, Nat.add_assoc, Nat.add_zero, Nat.zero_add, List.length_append, and_true, true_and, AV.flat, g0, get_app g0, read_get g0, read_app g0, *, -hK, -kG, -hn0, -hn1, -hl1, -hl2, -back] | with_reducible refine IfB_dec (fun h => ?_) (fun h => ?_) | with_reducible refine Guard_dec (fun h => ?_) (fun h => ?_) | with_reducible refine Guard_ndec (fun h => ?_) (fun h => ?_) | with_reducible refine Guard_not (fun h => ?_) (fun h => ?_) | with_reducible refine IfB_ndec (fun h => ?_) (fun h => ?_) | with_reducible refine IfB_not (fun h => ?_) (fun h => ?_) | with_reducible refine Guard_split (fun h => ?_) (fun h => ?_) | with_reducible refine IfB_split (fun h => ?_) (fun h => ?_))
  have hA0 := hA
  have o1 := s1
  refine WX_loopS [1, 3, 4] (fun k fr' J2 => ∃ (z : Nat), k = l.length - z ∧ z ≤ l.length ∧ fr'.get 5 = .int .i64 z ∧ J2 = J ∧ (∀ j (hj : j < z) (hx : j < l.length), l[j].cmd.keys.length ≤ 1000 ∧ ∀ k ∈ l[j].cmd.keys, k.length ≤ 100000) ∧ A fr') l.length ⟨0, rfl, by omega, by simp only [go_sem, Nat.reduceLT, Nat.reduceEqDiff, Nat.reduceAdd, Nat.reduceMul, Nat.reduceSub, Nat.reduceLeDiff, Int.reduceToNat, Int.reduceNeg, Int.reduceLT, Int.reduceLE, Int.reduceEq, reduceCtorEq]; rfl, rfl, fun j hj => by omega, by (repeat (first | exact hs | refine hA _ _ _ (by decide) ?_))⟩ ?_
  clear hg hs hA s1 f3
  rintro k fr' J2 A2 R2 hA hs hg hR2 ⟨z, rfl, hz, f5, rfl, hd, hAf⟩
  have s1 := hg 1 (by decide)
  have s3 := hg 3 (by decide)
  have s4 := hg 4 (by decide)
  simp only [Fr.get_put, Fr.get_init, List.getD_cons_zero, List.getD_cons_succ, Nat.reduceEqDiff, if_true, if_false] at s1 s3 s4
  rw [o1] at s1
  rw [f4] at s4
  clear o1 f4
  refine wx_sound hT _ ?_
  by_cases hlz : z < l.length
  rotate_left
  · have i6 : ¬ (z : Int) < l.length := by omega
    repeat' (first | simp only [go_sem, Nat.reduceLT, Nat.reduceEqDiff, Nat.reduceAdd, Nat.reduceMul, Nat.reduceSub, Nat.reduceLeDiff, Int.reduceToNat, Int.reduceNeg, Int.reduceLT, Int.reduceLE, Int.reduceEq, reduceCtorEq, Int.natCast_zero, Int.natCast_one, Int.cast_ofNat_Int, Bool.not_not, false_eq_decide, true_eq_decide, hread0, hreadk, read_cons0, read_consk, astore_h0, astore_hk, hget0, hgetk, hset0, hsetk, hlen, hcat, Nat.add_assoc, Nat.add_zero, Nat.zero_add, List.length_append, and_true, true_and, AV.flat, g0, get_app g0, read_get g0, read_app g0, *, -hK, -kG, -hn0, -hn1, -hl1, -hl2, -back, -hd, -hlz] | with_reducible refine IfB_dec (fun h => ?_) (fun h => ?_) | with_reducible refine Guard_dec (fun h => ?_) (fun h => ?_) | with_reducible refine Guard_ndec (fun h => ?_) (fun h => ?_) | with_reducible refine Guard_not (fun h => ?_) (fun h => ?_) | with_reducible refine IfB_ndec (fun h => ?_) (fun h => ?_) | with_reducible refine IfB_not (fun h => ?_) (fun h => ?_) | with_reducible refine Guard_split (fun h => ?_) (fun h => ?_) | with_reducible refine IfB_split (fun h => ?_) (fun h => ?_))
    exact back ⟨by omega, fun t ht => by obtain ⟨j, hj, rfl⟩ := List.getElem_of_mem ht; exact hd j (by omega) hj⟩ _ _ _ (by repeat (first | exact hAf | refine hA0 _ _ _ (by decide) ?_)) (by simp only [go_sem, Nat.reduceLT, Nat.reduceEqDiff, Nat.reduceAdd, Nat.reduceMul, Nat.reduceSub, Nat.reduceLeDiff, Int.reduceToNat, Int.reduceNeg, Int.reduceLT, Int.reduceLE, Int.reduceEq, reduceCtorEq]) (by simp only [go_sem, Nat.reduceLT, Nat.reduceEqDiff, Nat.reduceAdd, Nat.reduceMul, Nat.reduceSub, Nat.reduceLeDiff, Int.reduceToNat, Int.reduceNeg, Int.reduceLT, Int.reduceLE, Int.reduceEq, reduceCtorEq]; exact s3) rfl (by omega) (by omega)
  have i6 : (z : Int) < l.length := by omega
  have e7 := inc_id hlz hl1
  have e4 := at_enc (E := tktE) (T := T) (k := .i64) se31 hlz rfl
  rw [tktE_cells] at e4
  have lg := fun J => long_spec l[z].cmd (hl2 _ (List.getElem_mem hlz)) J
  have back2 : (l[z].cmd.keys.length ≤ 1000 ∧ ∀ k ∈ l[z].cmd.keys, k.length ≤ 100000) → ∀ fr2 J3, A2 fr2 → fr2.get 5 = .int .i64 ((z + 1 : Nat) : Int) → J3 = J2 → A fr2 → R2 fr2 J3 := fun h fr2 J3 ha j1 j2 j3 => hR2 fr2 J3 ha (l.length - (z + 1)) (by omega) ⟨z + 1, rfl, by omega, j1, j2, fun j hj hx => (Classical.em (j = z)).elim (fun e => by subst e; exact h) (fun e => hd j (by omega) hx), j3⟩
  clear hR2 hd back
  unfold Cmd.av at lg
  generalize l[z] = t at *
  repeat' (first | simp only [go_sem, Nat.reduceLT, Nat.reduceEqDiff, Nat.reduceAdd, Nat.reduceMul, Nat.reduceSub, Nat.reduceLeDiff, Int.reduceToNat, Int.reduceNeg, Int.reduceLT, Int.reduceLE, Int.reduceEq, reduceCtorEq, Int.natCast_zero, Int.natCast_one, Int.cast_ofNat_Int, Bool.not_not, false_eq_decide, true_eq_decide, hread0, hreadk, read_cons0, read_consk, astore_h0, astore_hk, hget0, hgetk, hset0, hsetk, hlen, hcat, Nat.add_assoc, Nat.add_zero, Nat.zero_add, List.length_append, and_true, true_and, AV.flat, g0, get_app g0, read_get g0, read_app g0, *, -hK, -kG, -hn0, -hn1, -hl1, -hl2, -lg, -back2] | with_reducible refine IfB_dec (fun h => ?_) (fun h => ?_) | with_reducible refine Guard_dec (fun h => ?_) (fun h => ?_) | with_reducible refine Guard_ndec (fun h => ?_) (fun h => ?_) | with_reducible refine Guard_not (fun h => ?_) (fun h => ?_) | with_reducible refine IfB_ndec (fun h => ?_) (fun h => ?_) | with_reducible refine IfB_not (fun h => ?_) (fun h => ?_) | with_reducible refine Guard_split (fun h => ?_) (fun h => ?_) | with_reducible refine IfB_split (fun h => ?_) (fun h => ?_))
  refine (lg _).mono ?_
  rintro r1 H1 ⟨⟨bl, rfl, hbl⟩, rfl⟩
  cases bl with
  | true =>
    repeat' (first | simp only [go_sem, Nat.reduceLT, Nat.reduceEqDiff, Nat.reduceAdd, Nat.reduceMul, Nat.reduceSub, Nat.reduceLeDiff, Int.reduceToNat, Int.reduceNeg, Int.reduceLT, Int.reduceLE, Int.reduceEq, reduceCtorEq, Int.natCast_zero, Int.natCast_one, Int.cast_ofNat_Int, Bool.not_not, false_eq_decide, true_eq_decide, hread0, hreadk, read_cons0, read_consk, astore_h0, astore_hk, hget0, hgetk, hset0, hsetk, hlen, hcat, Nat.add_assoc, Nat.add_zero, Nat.zero_add, List.length_append, and_true, true_and, AV.flat, *, -hK, -kG, -hn0, -hn1, -hl1, -hl2, -lg, -back2] | with_reducible refine IfB_dec (fun h => ?_) (fun h => ?_) | with_reducible refine Guard_dec (fun h => ?_) (fun h => ?_) | with_reducible refine Guard_ndec (fun h => ?_) (fun h => ?_) | with_reducible refine Guard_not (fun h => ?_) (fun h => ?_) | with_reducible refine IfB_ndec (fun h => ?_) (fun h => ?_) | with_reducible refine IfB_not (fun h => ?_) (fun h => ?_) | with_reducible refine Guard_split (fun h => ?_) (fun h => ?_) | with_reducible refine IfB_split (fun h => ?_) (fun h => ?_))
    exact hK _ _ ⟨_, .bool _, kG, _, rfl, fun hb => by cases hb⟩
  | false =>
    obtain ⟨hk1, -, hk2⟩ := hbl rfl
    repeat' (first | simp only [go_sem, Nat.reduceLT, Nat.reduceEqDiff, Nat.reduceAdd, Nat.reduceMul, Nat.reduceSub, Nat.reduceLeDiff, Int.reduceToNat, Int.reduceNeg, Int.reduceLT, Int.reduceLE, Int.reduceEq, reduceCtorEq, Int.natCast_zero, Int.natCast_one, Int.cast_ofNat_Int, Bool.not_not, false_eq_decide, true_eq_decide, hread0, hreadk, read_cons0, read_consk, astore_h0, astore_hk, hget0, hgetk, hset0, hsetk, hlen, hcat, Nat.add_assoc, Nat.add_zero, Nat.zero_add, List.length_append, and_true, true_and, AV.flat, *, -hK, -kG, -hn0, -hn1, -hl1, -hl2, -lg, -back2, -hk1, -hk2, -hbl, -g0] | with_reducible refine IfB_dec (fun h => ?_) (fun h => ?_) | with_reducible refine Guard_dec (fun h => ?_) (fun h => ?_) | with_reducible refine Guard_ndec (fun h => ?_) (fun h => ?_) | with_reducible refine Guard_not (fun h => ?_) (fun h => ?_) | with_reducible refine IfB_ndec (fun h => ?_) (fun h => ?_) | with_reducible refine IfB_not (fun h => ?_) (fun h => ?_) | with_reducible refine Guard_split (fun h => ?_) (fun h => ?_) | with_reducible refine IfB_split (fun h => ?_) (fun h => ?_))
    exact back2 ⟨by omega, fun k hk => by have := hk2 k hk; omega⟩ _ _ (by (repeat (first | exact hs | refine hA _ _ _ (by decide) ?_))) (by simp only [go_sem, Nat.reduceLT, Nat.reduceEqDiff, Nat.reduceAdd, Nat.reduceMul, Nat.reduceSub, Nat.reduceLeDiff, Int.reduceToNat, Int.reduceNeg, Int.reduceLT, Int.reduceLE, Int.reduceEq, reduceCtorEq]) rfl (by repeat (first | exact hAf | refine hA0 _ _ _ (by decide) ?_))
/-! ### inputs -/
theorem inp_tkt {n : Nat} {x : List AV} (h : InpP T (n + 5) 38 x) : ∃ t : Tkt, x = tktE.cells t ∧ tFit t := by
  obtain ⟨parts, rfl, hl, hp⟩ := InpP.struct tk38 h
  obtain ⟨p0, p1, p2, p3, p4, rfl⟩ := len5 hl
  obtain ⟨s0, rfl, -⟩ := InpP.int tk3 (hp 0 _ _ rfl rfl)
  obtain ⟨s1, rfl, -⟩ := InpP.int tk5 (hp 1 _ _ rfl rfl)
  obtain ⟨s3, rfl, -⟩ := InpP.int tk3 (hp 3 _ _ rfl rfl)
  obtain ⟨s4, rfl, -⟩ := InpP.int tk3 (hp 4 _ _ rfl rfl)
  obtain ⟨parts2, rfl, hl2, hp2⟩ := InpP.struct tk36 (hp 2 _ _ rfl rfl)
  obtain ⟨c0, c1, c2, c3, c4, c5, c6, c7, rfl⟩ := len8 hl2
  obtain ⟨t0, rfl, -⟩ := InpP.int tk5 (hp2 0 _ _ rfl rfl)
  obtain ⟨t1, rfl, -⟩ := InpP.int tk3 (hp2 1 _ _ rfl rfl)
  obtain ⟨ks, rfl, -, -, hd⟩ := InpP.slice (E := Enc.str) (Pr := fun _ => True) tk32 (fun x hx => by obtain ⟨s, rfl, -⟩ := InpP.str tk9 hx; exact ⟨s, rfl, trivial⟩) (hp2 2 _ _ rfl rfl)
  obtain ⟨t3, rfl, -⟩ := InpP.str tk9 (hp2 3 _ _ rfl rfl)
  obtain ⟨t4, rfl, -⟩ := InpP.int tk33 (hp2 4 _ _ rfl rfl)
  obtain ⟨t5, rfl, -⟩ := InpP.int tk3 (hp2 5 _ _ rfl rfl)
  obtain ⟨t6, rfl, -⟩ := InpP.int tk34 (hp2 6 _ _ rfl rfl)
  obtain ⟨t7, rfl, -⟩ := InpP.int tk34 (hp2 7 _ _ rfl rfl)
  exact ⟨⟨s0, s1, ⟨t0, t1, ks, t3, t4, t5, t6, t7⟩, s3, s4⟩, rfl, by
    have hb := hd _ td9
    unfold reachBytes at hb
    show ks.length ≤ _
    have : ks.length * 16 ≤ 140737488351232 := hb
    omega⟩
theorem inp_que {n : Nat} {a : AV} (h : InpPV T (n + 8) 24 a) : ∃ q : Que, a = q.av ∧ qIn q.bx := by
  obtain ⟨l, rfl, h'⟩ := h.agg tk24
  obtain ⟨parts, rfl, hl, hp⟩ := InpP.struct tk24 h'
  obtain ⟨p0, p1, rfl⟩ := len2 hl
  obtain ⟨s0, rfl, -⟩ := InpP.int tk3 (hp 0 _ _ rfl rfl)
  obtain ⟨bs, rfl, hs, -, hd⟩ := InpP.slice (E := boxE) (Pr := fun l => l.length ≤ 140737488355328 ∧ ∀ t ∈ l, tFit t) tk22 (fun x hx => by
    obtain ⟨xs, rfl, ho, -, hd⟩ := InpP.slice (E := tktE) (Pr := tFit) tk31 (fun x hx => inp_tkt hx) hx
    exact ⟨xs, rfl, by have hb := hd _ td38; unfold reachBytes at hb; have : xs.length * 120 ≤ 140737488351232 := hb; omega, ho⟩) (hp 1 _ _ rfl rfl)
  exact ⟨⟨s0, bs⟩, rfl, by have hb := hd _ td31; unfold reachBytes at hb; have : bs.length * 24 ≤ 140737488351232 := hb; show bs.length ≤ _; omega, hs⟩
open Go Go.Proofs Go.Proofs.PI
/-! ### one ticket in memory of its own -/
theorem kclone_own (xs : List (List UInt8)) (hn : xs.length ≤ 1000000) (H : Heap) : WC Try.prog 50 [(Enc.str).lst xs] H fun r H' => OwnE (Enc.str) H.length H' r xs ∧ Keep none H H' := by
  refine WC_of_K fun K hK => ?_
  cases xs with
  | nil =>
    refine WC_lst0 (pre := []) (post := []) ?_ ?_
    · skip
      refine WC_of_body hT Try.func50 rfl (by simp [Try.f50]) (by simp [Try.f50]) (wx_sound hT _ ?_)
      simp only [Try.f50]
      repeat' (first | simp only [go_sem, Nat.reduceLT, Nat.reduceEqDiff, Nat.reduceAdd, Nat.reduceMul, Nat.reduceSub, Nat.reduceLeDiff, Int.reduceToNat, Int.reduceNeg, Int.reduceLT, Int.reduceLE, Int.reduceEq, reduceCtorEq, Int.natCast_zero, Int.natCast_one, Int.cast_ofNat_Int, Bool.not_not, false_eq_decide, true_eq_decide, hread0, hreadk, read_cons0, read_consk, astore_h0, astore_hk, hget0, hgetk, hset0, hsetk, hlen, hcat, Nat.add_assoc, Nat.add_zero, Nat.zero_add, List.length_append, and_true, true_and, AV.flat, *, -hK] | with_reducible refine IfB_dec (fun h => ?_) (fun h => ?_) | with_reducible refine Guard_dec (fun h => ?_) (fun h => ?_) | with_reducible refine Guard_ndec (fun h => ?_) (fun h => ?_) | with_reducible refine Guard_not (fun h => ?_) (fun h => ?_) | with_reducible refine IfB_ndec (fun h => ?_) (fun h => ?_) | with_reducible refine IfB_not (fun h => ?_) (fun h => ?_) | with_reducible refine Guard_split (fun h => ?_) (fun h => ?_) | with_reducible refine IfB_split (fun h => ?_) (fun h => ?_))
      exact hK _ _ ⟨OwnE.nils _ _ _, Keep.refl _ _⟩
    · skip
      refine WC_of_body hT Try.func50 rfl (by simp [Try.f50]) (by simp [Try.f50]) (wx_sound hT _ ?_)
      simp only [Try.f50]
      simp only [go_sem, Nat.reduceLT, Nat.reduceEqDiff, Nat.reduceAdd, Nat.reduceMul, Nat.reduceSub, Nat.reduceLeDiff, Int.reduceToNat, Int.reduceNeg, Int.reduceLT, Int.reduceLE, Int.reduceEq, reduceCtorEq]
      refine append_enc (E := Enc.str) (xs := []) (ys := []) (m := H.length) (.inr ⟨H.length, 0, .full, [], rfl, Nat.le_refl _, get_last _ _, rfl, rfl⟩) se32 az9 td9 ?_ (by decide) (by simp) (by simp) ?_
      · simp only [asrc, tk32]; rfl
      · intro v' H1 h1 h2 h3
        simp only [go_sem, Nat.reduceLT, Nat.reduceEqDiff, Nat.reduceAdd, Nat.reduceMul, Nat.reduceSub, Nat.reduceLeDiff, Int.reduceToNat, Int.reduceNeg, Int.reduceLT, Int.reduceLE, Int.reduceEq, reduceCtorEq]
        exact hK _ _ ⟨h1, Keep.new (Keep.snoc none H _) h2 (Nat.le_refl _)⟩
  | cons x xs =>
    have hnil : AV.sliceNil ((Enc.str).lst (x :: xs)) = some false := rfl
    have hbin : abin T .eql 32 ((Enc.str).lst (x :: xs)) .nils = some (.bool false) := by simp only [abin, tk32, Enc.lst, AV.sliceNil]; rw [if_pos (by simp)]; rfl
    refine WC_of_body hT Try.func50 rfl (by simp [Try.f50]) (by simp [Try.f50]) (wx_sound hT _ ?_)
    simp only [Try.f50]
    simp only [wx_skip, wx_region, wx_draw, wx_seq, wx_cond, wx_block, wx_exit, wx_ret, wx_loop, WDr_nil, WDr_cons, WDo_none, WDo_some, drK_eq, drU_eq, efK_eq, keepAll_nil, keepAll_true, keepAll_false, RC.ok_pure, RC.ok_load, RC.ok_slice, RC.ok_bytes, RC.ok_blk, mkRC, XThen_normal, XThen_exit, XThen_ret, XBlock_normal, XBlock_ret, XBlock_eq, WOps_nil, WOps_cons, WOp, WCall, wantd, dstOk, apure, aun, anilCheck, aextract, afieldAddr, afieldOff, afield, apart, aindexAddr_sl, aindex, aconv, amakeFunc, alen_str, alen_sl, alen_nils, alen_emp, alen_nul, alen_lst, alen_enc, one_enc, solid_enc, cells_enc, one_nul, solid_nul, cells_nul, one_lst, solid_lst, cells_lst, one_cptr, solid_cptr, cells_cptr, amin, amax, aint, astr, aeq, aeqIn, aeqFs, aeqIn, aeqFs, tk, asize, asliceElem, azero, aalloc, aload, read_last_cons, abytes, abytesStr_sl, Fr.ev, cav, cav1, Fr.get_put, Fr.put_none, Fr.get_init, ares, resOf, atH_eq, opH_eq, undefK_eq, snocK_eq, callK_eq, opsK_eq, codeK_eq, bodyK_ret, bodyK_normal, On_some, On1_some, OnB_some, OnH_some, Guard_true, Guard_false, IfB_true, IfB_false, OnFn_fn, St.own, St.alive, TK.isAgg, one_int, solid_int, cells_int, one_bool, solid_bool, cells_bool, one_str, solid_str, cells_str, one_nilp, solid_nilp, cells_nilp, one_ptr, solid_ptr, cells_ptr, one_nils, solid_nils, cells_nils, one_emp, solid_emp, cells_emp, one_sl, solid_sl, cells_sl, one_fn, solid_fn, cells_fn, one_nilf, solid_nilf, cells_nilf, solid_agg, cells_agg, sliceNil_nils, sliceNil_sl, sliceNil_emp, ptrNil_nilp, ptrNil_ptr, wr, apartsFill, abuild, aplaces, reps, Nat.reduceLT, Nat.reduceEqDiff, Nat.reduceAdd, Nat.reduceMul, Nat.reduceSub, Nat.reduceLeDiff, Int.reduceToNat, Int.reduceNeg, Int.reduceLT, Int.reduceLE, Int.reduceEq, if_true, if_false, true_and, and_true, and_self, reduceCtorEq, decide_true, decide_false, Bool.and_true, Bool.true_and, Bool.and_false, Bool.false_and, Bool.not_true, Bool.not_false, Bool.false_eq_true, beq_self_eq_true, cond_true, cond_false, Option.map_some, Option.map_none, Option.bind_some, Option.bind_none, List.map_cons, List.map_nil, List.all_cons, List.all_nil, List.set_cons_zero, List.set_cons_succ, List.length_cons, List.length_nil, List.getElem?_cons_zero, List.getElem?_cons_succ, List.getD_cons_zero, List.getD_cons_succ, List.drop_zero, List.drop_succ_cons, List.take_succ_cons, List.take_zero, List.replicate_succ, List.replicate_zero, List.flatten_cons, List.flatten_nil, List.append_nil, List.nil_append, List.cons_append, Nat.le_refl, ne_eq, not_true_eq_false, not_false_eq_true, td9, td32, hbin]
    refine append_enc (E := Enc.str) (xs := []) (ys := x :: xs) (m := H.length) (.inr ⟨H.length, 0, .full, [], rfl, Nat.le_refl _, get_last _ _, rfl, rfl⟩) se32 az9 td9 (src_enc tk32) (by decide) ?_ (by simp) ?_
    · show ([].length + (x :: xs).length) * 17 ≤ _; simp only [List.length_nil, Nat.zero_add]; omega
    · intro v' H1 h1 h2 h3
      simp only [go_sem, Nat.reduceLT, Nat.reduceEqDiff, Nat.reduceAdd, Nat.reduceMul, Nat.reduceSub, Nat.reduceLeDiff, Int.reduceToNat, Int.reduceNeg, Int.reduceLT, Int.reduceLE, Int.reduceEq, reduceCtorEq]
      exact hK _ _ ⟨h1, Keep.new (Keep.snoc none H _) h2 (Nat.le_refl _)⟩
open Go Go.Proofs Go.Proofs.PI
/-! ### own boxes in memory -/
structure BxO (m : Nat) (H : Heap) (p : Nat) (ps : List AV) (l : List (List Tkt)) : Prop where
  len : ps.length = l.length
  ge : m ≤ p
  blk : ∃ st rest, H[p]? = some (⟨ps ++ rest, 1, st⟩ : Blk) ∧ st.own = true
  el : ∀ (i : Nat) x t, ps[i]? = some x → l[i]? = some t → OwnE tktE m H x t ∧ x.blk ≠ some p
  dis : ∀ (i j : Nat) x y b, i ≠ j → ps[i]? = some x → ps[j]? = some y → x.blk = some b → y.blk ≠ some b
section
variable {m p : Nat} {H : Heap} {ps : List AV} {l : List (List Tkt)} {T' : TypeId → Option TD}
theorem BxO.get (o : BxO m H p ps l) {i : Nat} (h : i < l.length) : ∃ x, ps[i]? = some x ∧ l[i]? = some l[i] ∧ OwnE tktE m H x l[i] ∧ x.blk ≠ some p := by
  have h1 := List.getElem?_eq_getElem (l := ps) (i := i) (by rw [o.len]; exact h)
  have h2 := List.getElem?_eq_getElem h
  exact ⟨_, h1, h2, o.el i _ _ h1 h2⟩
theorem BxO.addr {t e : TypeId} (he : asliceElem T' t = some (e, 1)) {i n : Nat} (hi : i < n) : aindexAddr T' t (.sl p 0 n none) (.int .i64 (i : Int)) = some (.ptr p i) := by
  simp only [aindexAddr, he]
  rw [if_pos ⟨by omega, by omega⟩, Int.toNat_natCast, Nat.zero_add, Nat.mul_one]
theorem BxO.lt (o : BxO m H p ps l) : p < H.length := by
  obtain ⟨st, rest, h, -⟩ := o.blk
  exact (List.getElem?_eq_some_iff.1 h).1
theorem BxO.lts (o : BxO m H p ps l) {i : Nat} {x : AV} {b : Nat} (hx : ps[i]? = some x) (hb : x.blk = some b) : m ≤ b ∧ b < H.length ∧ b ≠ p := by
  have hi : i < l.length := by rw [← o.len]; exact (List.getElem?_eq_some_iff.1 hx).1
  obtain ⟨h1, h2⟩ := o.el i x _ hx (List.getElem?_eq_getElem hi)
  exact ⟨h1.ge hb, h1.lt hb, fun e => h2 (by rw [hb, e])⟩
theorem BxO.read (o : BxO m H p ps l) {i : Nat} {x : AV} (hx : ps[i]? = some x) : H.read p i 1 = some [x] := by
  obtain ⟨st, rest, h, h2⟩ := o.blk
  obtain ⟨hi, e⟩ := List.getElem?_eq_some_iff.1 hx
  unfold Heap.read
  rw [h]
  simp only [own_alive h2, true_and]
  rw [if_pos (by rw [List.length_append]; omega)]
  simp only [Option.some.injEq]
  rw [List.drop_append_of_le_length (by omega), List.take_append_of_le_length (by rw [List.length_drop]; omega), List.drop_eq_getElem_cons hi, e]
  rfl
theorem BxO.store (o : BxO m H p ps l) {i : Nat} {x : AV} (hx : ps[i]? = some x) {H2 : Heap} (h2 : H2[p]? = H[p]?) {te : TypeId} (hte : asize T' te = some 1) {s : AV} (hso : s.solid = true) (hc : s.cells = [s]) :
    ∃ st rest, st.own = true ∧ astore T' H2 te (.ptr p i) s = some (List.set H2 p ⟨ps.set i s ++ rest, 1, st⟩) := by
  obtain ⟨st, rest, h, hst⟩ := o.blk
  have hi : i < ps.length := (List.getElem?_eq_some_iff.1 hx).1
  refine ⟨st, rest, hst, ?_⟩
  simp only [astore, hte, h2, h, hst, hso, hc, List.length_cons, List.length_nil, true_and]
  rw [if_pos (by rw [List.length_append]; omega), wr_left _ _ _ _ (by simp; omega), wr_one _ _ _ (by omega)]
theorem own_same {sz : Nat} {v : AV} {cs : List AV} {G : Heap} (ho : Own m H v sz cs) (hs : ∀ b, v.blk = some b → G[b]? = H[b]?) : Own m G v sz cs := by
  rcases ho with ho | ⟨b, n, st1, rest1, rfl, h1, h2, h4⟩
  · exact .inl ho
  · exact .inr ⟨b, n, st1, rest1, rfl, h1, by rw [hs b rfl]; exact h2, h4⟩
/-- What is not theirs may change. -/
theorem BxO.other {G : Heap} (o : BxO m H p ps l) (h : ∀ b, b = p ∨ (∃ (i : Nat) (x : AV), ps[i]? = some x ∧ x.blk = some b) → G[b]? = H[b]?) : BxO m G p ps l := by
  refine ⟨o.len, o.ge, ?_, fun i x t hx ht => ?_, o.dis⟩
  · obtain ⟨st, rest, h1, h2⟩ := o.blk
    exact ⟨st, rest, by rw [h p (.inl rfl)]; exact h1, h2⟩
  · obtain ⟨g1, g2⟩ := o.el i x t hx ht
    exact ⟨own_same g1 fun b hb => h b (.inr ⟨i, x, hx, hb⟩), g2⟩
theorem BxO.keep (o : BxO m H p ps l) {G : Heap} (k : Keep none H G) : BxO m G p ps l :=
  o.other fun b hb => k.at_ b (by rcases hb with rfl | ⟨i, x, hx, hb⟩; exact o.lt; exact (o.lts hx hb).2.1) (by simp)
theorem BxO.low (o : BxO m H p ps l) {G : Heap} (h : ∀ b, m ≤ b → b < H.length → G[b]? = H[b]?) : BxO m G p ps l :=
  o.other fun b hb => by
    rcases hb with rfl | ⟨i, x, hx, hb⟩
    · exact h _ o.ge o.lt
    · exact h _ (o.lts hx hb).1 (o.lts hx hb).2.1
theorem BxO.mono (o : BxO m H p ps l) {m2 : Nat} (hm : m2 ≤ m) : BxO m2 H p ps l :=
  ⟨o.len, Nat.le_trans hm o.ge, o.blk, fun i x t hx ht => ⟨Own.mono (o.el i x t hx ht).1 hm, (o.el i x t hx ht).2⟩, o.dis⟩
/-- One of them has grown, and is stored. -/
theorem BxO.upd (o : BxO m H p ps l) {i : Nat} {x y : AV} {t t2 : List Tkt} (hx : ps[i]? = some x) (ht : l[i]? = some t) {H2 : Heap} (k : Keep x.blk H H2) (o2 : OwnE tktE m H2 y t2) (hn : ∀ b, y.blk = some b → x.blk = some b ∨ H.length ≤ b)
    (rest : List AV) (st : St) (hst : st.own = true) : BxO m (List.set H2 p ⟨ps.set i y ++ rest, 1, st⟩) p (ps.set i y) (l.set i t2) := by
  have hi : i < ps.length := (List.getElem?_eq_some_iff.1 hx).1
  have hp2 : p < H2.length := Nat.lt_of_lt_of_le o.lt k.len
  have hyp : y.blk ≠ some p := fun e => by
    rcases hn p e with h | h
    · exact (o.el i x t hx ht).2 h
    · have := o.lt; omega
  have hyj : ∀ (j : Nat) z b, j ≠ i → ps[j]? = some z → y.blk = some b → z.blk ≠ some b := fun j z b hj hz hb hzb => by
    rcases hn b hb with h | h
    · exact o.dis j i z x b hj hz hx hzb h
    · have := (o.lts hz hzb).2.1; omega
  refine ⟨by rw [List.length_set, List.length_set]; exact o.len, o.ge, ⟨st, rest, List.getElem?_set_self hp2, hst⟩, fun j z u hz hu => ?_, fun j j2 z z2 b hne hz hz2 hzb => ?_⟩
  · by_cases e : i = j
    · subst e
      rw [List.getElem?_set_self hi] at hz
      rw [List.getElem?_set_self (by rw [← o.len]; exact hi)] at hu
      simp only [Option.some.injEq] at hz hu
      subst hz; subst hu
      exact ⟨own_same o2 fun b hb => List.getElem?_set_ne fun e => hyp (by rw [hb, e]), hyp⟩
    · rw [List.getElem?_set_ne e] at hz hu
      obtain ⟨g1, g2⟩ := o.el j z u hz hu
      refine ⟨own_same g1 fun b hb => ?_, g2⟩
      rw [List.getElem?_set_ne fun e => g2 (by rw [hb, e]), k.at_ b (g1.lt hb) fun e2 => o.dis j i z x b (fun e3 => e e3.symm) hz hx hb e2]
  · by_cases e : i = j
    · subst e
      rw [List.getElem?_set_self hi] at hz
      rw [List.getElem?_set_ne hne] at hz2
      simp only [Option.some.injEq] at hz
      subst hz
      exact hyj j2 z2 b (fun e => hne e.symm) hz2 hzb
    · rw [List.getElem?_set_ne e] at hz
      by_cases e2 : i = j2
      · subst e2
        rw [List.getElem?_set_self hi] at hz2
        simp only [Option.some.injEq] at hz2
        subst hz2
        exact fun hh => hyj j z b (fun e => hne e) hz hh hzb
      · rw [List.getElem?_set_ne e2] at hz2
        exact o.dis j j2 z z2 b hne hz hz2 hzb
theorem boxE_row (l : List (List Tkt)) : boxE.row l = l.map tktE.lst := by
  induction l with
  | nil => rfl
  | cons t l ih => rw [Enc.row_cons, ih]; rfl
theorem BxO.thaw (o : BxO m H p ps l) : Thaw m H (.sl p 0 l.length none) (boxE.lst l) := by
  obtain ⟨st, rest, h, hst⟩ := o.blk
  have hlen := o.len
  refine .sl p 0 _ _ _ _ o.ge h hst ?_ fun i a c ha hc => ?_
  · rw [boxE_row, List.length_map, List.length_append]; omega
  · rw [Nat.zero_add] at ha
    rw [boxE_row] at hc
    have hi : i < l.length := by have := (List.getElem?_eq_some_iff.1 hc).1; rwa [List.length_map] at this
    rw [List.getElem?_append_left (by omega)] at ha
    rw [List.getElem?_map, List.getElem?_eq_getElem hi] at hc
    cases hc
    exact (o.el _ _ _ ha (List.getElem?_eq_getElem hi)).1.thaw (by decide)
theorem BxO.new (J : Heap) (n : Nat) (hm : m ≤ J.length) {st : St} (hst : st.own = true) : BxO m (J ++ [⟨List.replicate n .nils, 1, st⟩]) J.length (List.replicate n .nils) (List.replicate n []) := by
  refine ⟨by simp, hm, ⟨st, [], by simp, hst⟩, fun i x t hx ht => ?_, fun i j x y b _ hx hy hb => ?_⟩
  · have hx := List.eq_of_mem_replicate (List.mem_of_getElem? hx)
    have ht := List.eq_of_mem_replicate (List.mem_of_getElem? ht)
    subst hx; subst ht
    exact ⟨OwnE.nils _ _ _, by simp [AV.blk]⟩
  · have hx := List.eq_of_mem_replicate (List.mem_of_getElem? hx)
    subst hx; cases hb
end
open Go Go.Proofs Go.Proofs.PI
/-! ### inboxes in memory of their own -/
def grown (bs : List (List Tkt)) (i : Nat) : List (List Tkt) := bs.take i ++ List.replicate (bs.length - i) []
theorem grown_len {bs : List (List Tkt)} {i : Nat} (h : i ≤ bs.length) : (grown bs i).length = bs.length := by
  unfold grown; rw [List.length_append, List.length_take, List.length_replicate]; omega
theorem grown_get {bs : List (List Tkt)} {i : Nat} (h : i < bs.length) : (grown bs i)[i]? = some [] := by
  unfold grown
  rw [List.getElem?_append_right (by rw [List.length_take]; omega), List.length_take, show i - min i bs.length = 0 by omega, show bs.length - i = (bs.length - (i + 1)) + 1 by omega, List.replicate_succ]
  rfl
theorem grown_set {bs : List (List Tkt)} {i : Nat} (h : i < bs.length) : (grown bs i).set i bs[i] = grown bs (i + 1) := by
  unfold grown
  rw [List.set_append_right _ _ (by rw [List.length_take]; omega), List.length_take, show i - min i bs.length = 0 by omega, show bs.length - i = (bs.length - (i + 1)) + 1 by omega, List.replicate_succ, List.set_cons_zero, List.take_succ_eq_append_getElem h, List.append_assoc]
  rfl
theorem grown_set0 {bs : List (List Tkt)} {i : Nat} (h : i < bs.length) : (grown bs i).set i [] = grown bs i := by
  have hg := grown_get h
  obtain ⟨h1, h2⟩ := List.getElem?_eq_some_iff.1 hg
  exact (congrArg _ h2.symm).trans (List.set_getElem_self h1)
theorem flat_nils (n : Nat) : (List.replicate n [AV.nils]).flatten = List.replicate n .nils := by
  induction n with
  | zero => rfl
  | succ n ih => rw [List.replicate_succ, List.flatten_cons, ih]; rfl
theorem vs_at {X : Heap} {b : Nat} {cs : List AV} {sz : Nat} {st : St} (hb : X[b]? = some ⟨cs, sz, st⟩) (hal : st.alive = true) (hl : cs.length = 1 * sz) : Vs X (.sl b 0 1 none) sz 1 cs :=
  ⟨hl, .inr (.inr ⟨b, 0, none, _, rfl, by simp, hb, hal, fun _ => rfl, by simp; omega, by rw [Nat.one_mul] at hl ⊢; rw [List.drop_zero, ← hl, List.take_length]⟩)⟩
theorem own_sc {α : Type} {E : Enc α} {m : Nat} {H : Heap} {v : AV} {xs : List α} (o : OwnE E m H v xs) : v.solid = true ∧ v.cells = [v] := by
  rcases o with ⟨rfl, _⟩ | ⟨b, n, st, rest, rfl, _⟩ <;> exact ⟨rfl, rfl⟩
open Go Go.Proofs Go.Proofs.PI
/-! ### New, Shards, Put -/
theorem shardsL_lt {t : Tkt} {n : Nat} {j : Int} (h : j ∈ shardsL t n) : ∃ k : Nat, j = k ∧ k < n := by
  unfold shardsL at h
  split at h
  · unfold shL at h
    split at h
    · unfold needL at h
      obtain ⟨k, hk, rfl⟩ := List.mem_map.1 h
      have := List.mem_range.1 (List.mem_filter.1 hk).1
      exact ⟨k, rfl, by rw [Int.toNat_natCast] at this; exact this⟩
    · cases h
  · unfold rangeI at h
    obtain ⟨k, hk, rfl⟩ := List.mem_map.1 h
    exact ⟨k, rfl, List.mem_range.1 hk⟩
theorem nodup_casts {l : List Nat} (h : l.Nodup) : (l.map fun i : Nat => (i : Int)).Nodup := by
  rw [List.nodup_iff_pairwise_ne] at h ⊢
  rw [List.pairwise_map]
  exact h.imp fun e => by omega
theorem shardsL_nodup (t : Tkt) (n : Nat) : (shardsL t n).Nodup := by
  unfold shardsL
  split
  · unfold shL
    split
    · unfold needL
      exact nodup_casts (List.nodup_range.filter _)
    · exact List.nodup_nil
  · exact nodup_casts List.nodup_range
theorem shardsL_len (t : Tkt) (n : Nat) : (shardsL t n).length ≤ n := by
  unfold shardsL
  split
  · unfold shL
    split
    · have := needL_len t.cmd n (n : Int).toNat
      rw [Int.toNat_natCast] at this ⊢; exact this
    · simp
  · rw [rangeI_len]; exact Nat.le_refl _
def que0 : Que := ⟨0, []⟩
def tkt0 : Tkt := ⟨0, 0, cmd0, 0, 0⟩
def newR (n : Int) : Que × Int := if n < 1 ∨ n > 4 then (que0, 2) else (⟨0, List.replicate n.toNat []⟩, 0)
theorem new_spec (n : Int) (H : Heap) : WC Try.prog 10 [.int .i64 n] H fun r H' => r = .tup [(newR n).1.av, .int .i64 (newR n).2] ∧ H' = H := by
  refine WC_val fun K hK => ?_
  by_cases i1 : n < 1
  · rw [show newR n = (que0, 2) by unfold newR; rw [if_pos (.inl i1)]] at hK
    refine WC_of_body hT Try.func10 rfl (by simp [Try.f10]) (by simp [Try.f10]) (wx_sound hT _ ?_)
    simp only [Try.f10]
    repeat' (first | simp only [go_sem, Nat.reduceLT, Nat.reduceEqDiff, Nat.reduceAdd, Nat.reduceMul, Nat.reduceSub, Nat.reduceLeDiff, Int.reduceToNat, Int.reduceNeg, Int.reduceLT, Int.reduceLE, Int.reduceEq, reduceCtorEq, Int.natCast_zero, Int.natCast_one, Int.cast_ofNat_Int, Bool.not_not, false_eq_decide, true_eq_decide, hread0, hreadk, read_cons0, read_consk, astore_h0, astore_hk, hget0, hgetk, hset0, hsetk, hlen, hcat, Nat.add_assoc, Nat.add_zero, Nat.zero_add, List.length_append, and_true, true_and, AV.flat, *, -hK] | with_reducible refine IfB_dec (fun h => ?_) (fun h => ?_) | with_reducible refine Guard_dec (fun h => ?_) (fun h => ?_) | with_reducible refine Guard_ndec (fun h => ?_) (fun h => ?_) | with_reducible refine Guard_not (fun h => ?_) (fun h => ?_) | with_reducible refine IfB_ndec (fun h => ?_) (fun h => ?_) | with_reducible refine IfB_not (fun h => ?_) (fun h => ?_) | with_reducible refine Guard_split (fun h => ?_) (fun h => ?_) | with_reducible refine IfB_split (fun h => ?_) (fun h => ?_))
    exact hK _ _ (Thaw.tup_row ⟨Thaw.agg_row ⟨.int _ _, .nils, trivial⟩, .int _ _, trivial⟩) (Keep.app _ _ _)
  by_cases i2 : n > 4
  · rw [show newR n = (que0, 2) by unfold newR; rw [if_pos (.inr i2)]] at hK
    refine WC_of_body hT Try.func10 rfl (by simp [Try.f10]) (by simp [Try.f10]) (wx_sound hT _ ?_)
    simp only [Try.f10]
    repeat' (first | simp only [go_sem, Nat.reduceLT, Nat.reduceEqDiff, Nat.reduceAdd, Nat.reduceMul, Nat.reduceSub, Nat.reduceLeDiff, Int.reduceToNat, Int.reduceNeg, Int.reduceLT, Int.reduceLE, Int.reduceEq, reduceCtorEq, Int.natCast_zero, Int.natCast_one, Int.cast_ofNat_Int, Bool.not_not, false_eq_decide, true_eq_decide, hread0, hreadk, read_cons0, read_consk, astore_h0, astore_hk, hget0, hgetk, hset0, hsetk, hlen, hcat, Nat.add_assoc, Nat.add_zero, Nat.zero_add, List.length_append, and_true, true_and, AV.flat, *, -hK] | with_reducible refine IfB_dec (fun h => ?_) (fun h => ?_) | with_reducible refine Guard_dec (fun h => ?_) (fun h => ?_) | with_reducible refine Guard_ndec (fun h => ?_) (fun h => ?_) | with_reducible refine Guard_not (fun h => ?_) (fun h => ?_) | with_reducible refine IfB_ndec (fun h => ?_) (fun h => ?_) | with_reducible refine IfB_not (fun h => ?_) (fun h => ?_) | with_reducible refine Guard_split (fun h => ?_) (fun h => ?_) | with_reducible refine IfB_split (fun h => ?_) (fun h => ?_))
    exact hK _ _ (Thaw.tup_row ⟨Thaw.agg_row ⟨.int _ _, .nils, trivial⟩, .int _ _, trivial⟩) (Keep.app _ _ _)
  rw [show newR n = (⟨0, List.replicate n.toNat []⟩, 0) by unfold newR; rw [if_neg (by omega)]] at hK
  obtain ⟨k, rfl⟩ : ∃ k : Nat, n = k := ⟨n.toNat, by omega⟩
  rw [Int.toNat_natCast] at hK
  have hc : (0 : Int) ≤ k ∧ (k : Int) ≤ k ∧ (k : Int) ≤ 140737488355328 ∧ 24 * (k : Int) ≤ 140737488355328 := by omega
  have hj : (k : Int).toNat = k := Int.toNat_natCast _
  refine WC_of_body hT Try.func10 rfl (by simp [Try.f10]) (by simp [Try.f10]) (wx_sound hT _ ?_)
  simp only [Try.f10]
  repeat' (first | simp only [go_sem, Nat.reduceLT, Nat.reduceEqDiff, Nat.reduceAdd, Nat.reduceMul, Nat.reduceSub, Nat.reduceLeDiff, Int.reduceToNat, Int.reduceNeg, Int.reduceLT, Int.reduceLE, Int.reduceEq, reduceCtorEq, Int.natCast_zero, Int.natCast_one, Int.cast_ofNat_Int, Bool.not_not, false_eq_decide, true_eq_decide, hread0, hreadk, read_cons0, read_consk, astore_h0, astore_hk, hget0, hgetk, hset0, hsetk, hlen, hcat, Nat.add_assoc, Nat.add_zero, Nat.zero_add, List.length_append, and_true, true_and, AV.flat, *, -hK, -hc, -hj] | with_reducible refine IfB_dec (fun h => ?_) (fun h => ?_) | with_reducible refine Guard_dec (fun h => ?_) (fun h => ?_) | with_reducible refine Guard_ndec (fun h => ?_) (fun h => ?_) | with_reducible refine Guard_not (fun h => ?_) (fun h => ?_) | with_reducible refine IfB_ndec (fun h => ?_) (fun h => ?_) | with_reducible refine IfB_not (fun h => ?_) (fun h => ?_) | with_reducible refine Guard_split (fun h => ?_) (fun h => ?_) | with_reducible refine IfB_split (fun h => ?_) (fun h => ?_))
  rw [if_pos hc]
  simp only [hj, flat_nils]
  repeat' (first | simp only [go_sem, Nat.reduceLT, Nat.reduceEqDiff, Nat.reduceAdd, Nat.reduceMul, Nat.reduceSub, Nat.reduceLeDiff, Int.reduceToNat, Int.reduceNeg, Int.reduceLT, Int.reduceLE, Int.reduceEq, reduceCtorEq, Int.natCast_zero, Int.natCast_one, Int.cast_ofNat_Int, Bool.not_not, false_eq_decide, true_eq_decide, hread0, hreadk, read_cons0, read_consk, astore_h0, astore_hk, hget0, hgetk, hset0, hsetk, hlen, hcat, Nat.add_assoc, Nat.add_zero, Nat.zero_add, List.length_append, and_true, true_and, AV.flat, *, -hK, -hc, -hj] | with_reducible refine IfB_dec (fun h => ?_) (fun h => ?_) | with_reducible refine Guard_dec (fun h => ?_) (fun h => ?_) | with_reducible refine Guard_ndec (fun h => ?_) (fun h => ?_) | with_reducible refine Guard_not (fun h => ?_) (fun h => ?_) | with_reducible refine IfB_ndec (fun h => ?_) (fun h => ?_) | with_reducible refine IfB_not (fun h => ?_) (fun h => ?_) | with_reducible refine Guard_split (fun h => ?_) (fun h => ?_) | with_reducible refine IfB_split (fun h => ?_) (fun h => ?_))
  have w0 := BxO.new (m := H.length) (H ++ [(⟨[.int .i64 0, .sl (H.length + 1) 0 k none], 0, .full⟩ : Blk)]) k (by simp) (st := .full) rfl
  refine hK _ _ (Thaw.tup_row ⟨Thaw.agg_row ⟨.int _ _, ?_, trivial⟩, .int _ _, trivial⟩) ?_
  · have w1 := w0.thaw
    simpa using w1
  · exact Keep.app _ _ _
def tshE (t : Tkt) (n : Int) : Int := if t.mayB = false then 8 else if n < 1 ∨ n > 4 then 2 else 0
def tshL (t : Tkt) (n : Int) : List Int := if tshE t n = 0 then shardsL t n.toNat else []
theorem tshAll_spec (t : Tkt) (n : Int) (hn : t.cmd.keys.length ≤ 1000) (hks : ∀ k ∈ t.cmd.keys, k.length ≤ 100000) (H : Heap) : WC Try.prog 18 [t.av, .int .i64 n] H fun r H' => r = .tup [(Enc.int .i64).lst (tshL t n), .int .i64 (tshE t n)] ∧ H' = H := by
  refine WC_val fun K hK => ?_
  have my := fun J => tmay_spec t hn J
  cases hm : t.mayB with
  | false =>
    rw [hm] at my
    rw [show tshL t n = [] by unfold tshL tshE; rw [hm]; rfl, show tshE t n = 8 by unfold tshE; rw [if_pos hm]] at hK
    unfold Tkt.av at *
    refine WC_of_body hT Try.func18 rfl (by simp [Try.f18]) (by simp [Try.f18]) (wx_sound hT _ ?_)
    simp only [Try.f18]
    repeat' (first | simp only [go_sem, Nat.reduceLT, Nat.reduceEqDiff, Nat.reduceAdd, Nat.reduceMul, Nat.reduceSub, Nat.reduceLeDiff, Int.reduceToNat, Int.reduceNeg, Int.reduceLT, Int.reduceLE, Int.reduceEq, reduceCtorEq, Int.natCast_zero, Int.natCast_one, Int.cast_ofNat_Int, Bool.not_not, false_eq_decide, true_eq_decide, hread0, hreadk, read_cons0, read_consk, astore_h0, astore_hk, hget0, hgetk, hset0, hsetk, hlen, hcat, Nat.add_assoc, Nat.add_zero, Nat.zero_add, List.length_append, and_true, true_and, AV.flat, *, -hK, -my, -hm] | refine WC.call (my _) ?_ | with_reducible refine IfB_dec (fun h => ?_) (fun h => ?_) | with_reducible refine Guard_dec (fun h => ?_) (fun h => ?_) | with_reducible refine Guard_ndec (fun h => ?_) (fun h => ?_) | with_reducible refine Guard_not (fun h => ?_) (fun h => ?_) | with_reducible refine IfB_ndec (fun h => ?_) (fun h => ?_) | with_reducible refine IfB_not (fun h => ?_) (fun h => ?_) | with_reducible refine Guard_split (fun h => ?_) (fun h => ?_) | with_reducible refine IfB_split (fun h => ?_) (fun h => ?_))
    exact hK _ _ (Thaw.tup_row ⟨.nils, .int _ _, trivial⟩) (Keep.app _ _ _)
  | true =>
  rw [hm] at my
  by_cases i1 : n < 1
  · have hE : tshE t n = 2 := by unfold tshE; rw [hm, if_neg (by decide), if_pos (.inl i1)]
    rw [show tshL t n = [] by unfold tshL; rw [hE]; rfl, hE] at hK
    unfold Tkt.av at *
    refine WC_of_body hT Try.func18 rfl (by simp [Try.f18]) (by simp [Try.f18]) (wx_sound hT _ ?_)
    simp only [Try.f18]
    repeat' (first | simp only [go_sem, Nat.reduceLT, Nat.reduceEqDiff, Nat.reduceAdd, Nat.reduceMul, Nat.reduceSub, Nat.reduceLeDiff, Int.reduceToNat, Int.reduceNeg, Int.reduceLT, Int.reduceLE, Int.reduceEq, reduceCtorEq, Int.natCast_zero, Int.natCast_one, Int.cast_ofNat_Int, Bool.not_not, false_eq_decide, true_eq_decide, hread0, hreadk, read_cons0, read_consk, astore_h0, astore_hk, hget0, hgetk, hset0, hsetk, hlen, hcat, Nat.add_assoc, Nat.add_zero, Nat.zero_add, List.length_append, and_true, true_and, AV.flat, *, -hK, -my, -hm] | refine WC.call (my _) ?_ | with_reducible refine IfB_dec (fun h => ?_) (fun h => ?_) | with_reducible refine Guard_dec (fun h => ?_) (fun h => ?_) | with_reducible refine Guard_ndec (fun h => ?_) (fun h => ?_) | with_reducible refine Guard_not (fun h => ?_) (fun h => ?_) | with_reducible refine IfB_ndec (fun h => ?_) (fun h => ?_) | with_reducible refine IfB_not (fun h => ?_) (fun h => ?_) | with_reducible refine Guard_split (fun h => ?_) (fun h => ?_) | with_reducible refine IfB_split (fun h => ?_) (fun h => ?_))
    exact hK _ _ (Thaw.tup_row ⟨.nils, .int _ _, trivial⟩) (Keep.app _ _ _)
  by_cases i2 : n > 4
  · have hE : tshE t n = 2 := by unfold tshE; rw [hm, if_neg (by decide), if_pos (.inr i2)]
    rw [show tshL t n = [] by unfold tshL; rw [hE]; rfl, hE] at hK
    unfold Tkt.av at *
    refine WC_of_body hT Try.func18 rfl (by simp [Try.f18]) (by simp [Try.f18]) (wx_sound hT _ ?_)
    simp only [Try.f18]
    repeat' (first | simp only [go_sem, Nat.reduceLT, Nat.reduceEqDiff, Nat.reduceAdd, Nat.reduceMul, Nat.reduceSub, Nat.reduceLeDiff, Int.reduceToNat, Int.reduceNeg, Int.reduceLT, Int.reduceLE, Int.reduceEq, reduceCtorEq, Int.natCast_zero, Int.natCast_one, Int.cast_ofNat_Int, Bool.not_not, false_eq_decide, true_eq_decide, hread0, hreadk, read_cons0, read_consk, astore_h0, astore_hk, hget0, hgetk, hset0, hsetk, hlen, hcat, Nat.add_assoc, Nat.add_zero, Nat.zero_add, List.length_append, and_true, true_and, AV.flat, *, -hK, -my, -hm] | refine WC.call (my _) ?_ | with_reducible refine IfB_dec (fun h => ?_) (fun h => ?_) | with_reducible refine Guard_dec (fun h => ?_) (fun h => ?_) | with_reducible refine Guard_ndec (fun h => ?_) (fun h => ?_) | with_reducible refine Guard_not (fun h => ?_) (fun h => ?_) | with_reducible refine IfB_ndec (fun h => ?_) (fun h => ?_) | with_reducible refine IfB_not (fun h => ?_) (fun h => ?_) | with_reducible refine Guard_split (fun h => ?_) (fun h => ?_) | with_reducible refine IfB_split (fun h => ?_) (fun h => ?_))
    exact hK _ _ (Thaw.tup_row ⟨.nils, .int _ _, trivial⟩) (Keep.app _ _ _)
  have hE : tshE t n = 0 := by unfold tshE; rw [hm, if_neg (by decide), if_neg (by omega)]
  rw [show tshL t n = shardsL t n.toNat by unfold tshL; rw [if_pos hE], hE] at hK
  obtain ⟨k, rfl⟩ : ∃ k : Nat, n = k := ⟨n.toNat, by omega⟩
  rw [Int.toNat_natCast] at hK
  have sh := fun J => tshards_spec t k (by omega) hn hks J
  unfold Tkt.av at *
  refine WC_of_body hT Try.func18 rfl (by simp [Try.f18]) (by simp [Try.f18]) (wx_sound hT _ ?_)
  simp only [Try.f18]
  repeat' (first | simp only [go_sem, Nat.reduceLT, Nat.reduceEqDiff, Nat.reduceAdd, Nat.reduceMul, Nat.reduceSub, Nat.reduceLeDiff, Int.reduceToNat, Int.reduceNeg, Int.reduceLT, Int.reduceLE, Int.reduceEq, reduceCtorEq, Int.natCast_zero, Int.natCast_one, Int.cast_ofNat_Int, Bool.not_not, false_eq_decide, true_eq_decide, hread0, hreadk, read_cons0, read_consk, astore_h0, astore_hk, hget0, hgetk, hset0, hsetk, hlen, hcat, Nat.add_assoc, Nat.add_zero, Nat.zero_add, List.length_append, and_true, true_and, AV.flat, *, -hK, -my, -hm, -sh] | refine WC.call (my _) ?_ | refine WC.call (sh _) ?_ | with_reducible refine IfB_dec (fun h => ?_) (fun h => ?_) | with_reducible refine Guard_dec (fun h => ?_) (fun h => ?_) | with_reducible refine Guard_ndec (fun h => ?_) (fun h => ?_) | with_reducible refine Guard_not (fun h => ?_) (fun h => ?_) | with_reducible refine IfB_ndec (fun h => ?_) (fun h => ?_) | with_reducible refine IfB_not (fun h => ?_) (fun h => ?_) | with_reducible refine Guard_split (fun h => ?_) (fun h => ?_) | with_reducible refine IfB_split (fun h => ?_) (fun h => ?_))
  exact hK _ _ (Thaw.tup_row (l' := [_, _]) ⟨.atom _ rfl, .int _ _, trivial⟩) (Keep.app _ _ _)
open Go Go.Proofs Go.Proofs.PI
/-! ### Put -/
def putBx (b : List (List Tkt)) (t : Tkt) (js : List Int) : List (List Tkt) := js.foldl (fun b j => b.set j.toNat (b[j.toNat]?.getD [] ++ [t])) b
theorem putBx_snoc (b : List (List Tkt)) (t : Tkt) (js : List Int) (k : Nat) : putBx b t (js ++ [(k : Int)]) = (putBx b t js).set k ((putBx b t js)[k]?.getD [] ++ [t]) := by
  unfold putBx
  rw [List.foldl_append]
  simp only [List.foldl_cons, List.foldl_nil, Int.toNat_natCast]
theorem putBx_length (b : List (List Tkt)) (t : Tkt) (js : List Int) : (putBx b t js).length = b.length := by
  unfold putBx
  induction js generalizing b with
  | nil => rfl
  | cons j js ih => rw [List.foldl_cons, ih, List.length_set]
theorem putBx_le (t : Tkt) (js : List Int) : ∀ (M : Nat) (b : List (List Tkt)), (∀ l ∈ b, l.length ≤ M) → ∀ l ∈ putBx b t js, l.length ≤ M + js.length := by
  induction js with
  | nil => exact fun M b hb l hl => hb l hl
  | cons j js ih =>
    intro M b hb l hl
    have e : putBx b t (j :: js) = putBx (b.set j.toNat (b[j.toNat]?.getD [] ++ [t])) t js := rfl
    rw [e] at hl
    have := ih (M + 1) _ (fun l hl => by
      rcases List.mem_or_eq_of_mem_set hl with hl | rfl
      · have := hb l hl; omega
      · rw [List.length_append]
        cases hg : b[j.toNat]? with
        | none => simp
        | some x => have := hb x (List.mem_of_getElem? hg); simp only [Option.getD_some, List.length_cons, List.length_nil]; omega) l hl
    rw [List.length_cons]; omega
def fullB (q : Que) (t : Tkt) : Bool := (shardsL t q.bx.length).any fun j => decide (((q.bx[j.toNat]?.getD []).length : Int) = 256)
def Tkt.at_ (t : Tkt) (n : Int) : Tkt := ⟨n, t.kind, t.cmd, t.ten, t.to⟩
def putR (q : Que) (t : Tkt) : Que × Int × Int :=
  if ¬ q.may then (que0, 0, 8) else if t.mayB = false then (que0, 0, 8) else if q.next = 1099511627776 ∨ fullB q t = true then (que0, 0, 9)
  else (⟨q.next + 1, putBx q.bx (t.at_ q.next) (shardsL t q.bx.length)⟩, q.next, 0)
theorem putF_spec (nx : Int) (bs : List (List Tkt)) (k : Nat) (hk : k < bs.length) (qb : Nat) (J : Heap) (g0 : J[qb]? = some ⟨[.int .i64 nx, boxE.lst bs], 0, .full⟩) :
    WC Try.prog 34 [.int .i64 k, .ptr qb 0] J fun r H' => r = .bool (decide ((bs[k].length : Int) = 256)) ∧ H' = J := by
  refine WC_of_K fun K hK => ?_
  have e1 := at_enc (E := boxE) (T := T) (k := .i64) se22 hk rfl
  rw [boxE_cells] at e1
  generalize bs[k] = l at *
  refine WC_of_body hT Try.func34 rfl (by simp [Try.f34]) (by simp [Try.f34]) (wx_sound hT _ ?_)
  simp only [Try.f34]
  repeat' (first | simp only [go_sem, Nat.reduceLT, Nat.reduceEqDiff, Nat.reduceAdd, Nat.reduceMul, Nat.reduceSub, Nat.reduceLeDiff, Int.reduceToNat, Int.reduceNeg, Int.reduceLT, Int.reduceLE, Int.reduceEq, reduceCtorEq, Int.natCast_zero, Int.natCast_one, Int.cast_ofNat_Int, Bool.not_not, false_eq_decide, true_eq_decide, hread0, hreadk, read_cons0, read_consk, astore_h0, astore_hk, hget0, hgetk, hset0, hsetk, hlen, hcat, Nat.add_assoc, Nat.add_zero, Nat.zero_add, List.length_append, and_true, true_and, AV.flat, g0, get_app g0, read_get g0, read_app g0, *, -hK] | with_reducible refine IfB_dec (fun h => ?_) (fun h => ?_) | with_reducible refine Guard_dec (fun h => ?_) (fun h => ?_) | with_reducible refine Guard_ndec (fun h => ?_) (fun h => ?_) | with_reducible refine Guard_not (fun h => ?_) (fun h => ?_) | with_reducible refine IfB_ndec (fun h => ?_) (fun h => ?_) | with_reducible refine IfB_not (fun h => ?_) (fun h => ?_) | with_reducible refine Guard_split (fun h => ?_) (fun h => ?_) | with_reducible refine IfB_split (fun h => ?_) (fun h => ?_))
  exact hK _ _ ⟨rfl, rfl⟩
open Go Go.Proofs Go.Proofs.PI
/-! ### Take -/
def TlV (m : Nat) (H : Heap) (x : AV) (l : List Tkt) : Prop := Vs H x 12 l.length (tktE.row l) ∧ ∀ b, x.blk = some b → m ≤ b ∧ ∃ B, H[b]? = some B ∧ B.st.own = true
theorem TlV.of {m : Nat} {H : Heap} {x : AV} {l : List Tkt} (o : OwnE tktE m H x l) : TlV m H x l := by
  refine ⟨o.vs (by decide), fun b hb => ?_⟩
  rcases o with ⟨rfl, _⟩ | ⟨b2, n, st, rest, rfl, h1, h2, h3, _⟩
  · cases hb
  · cases hb; exact ⟨h1, _, h2, h3⟩
theorem TlV.same {m : Nat} {H G : Heap} {x : AV} {l : List Tkt} (o : TlV m H x l) (h : ∀ b, x.blk = some b → G[b]? = H[b]?) : TlV m G x l := by
  refine ⟨⟨o.1.1, ?_⟩, fun b hb => by rw [h b hb]; exact o.2 b hb⟩
  rcases o.1.2 with h1 | h1 | ⟨b, p, cap, B, rfl, hcap, h1, h2⟩
  · exact .inl h1
  · exact .inr (.inl h1)
  · exact .inr (.inr ⟨b, p, cap, B, rfl, hcap, by rw [h b rfl]; exact h1, h2⟩)
theorem TlV.thaw {m : Nat} {H : Heap} {x : AV} {l : List Tkt} (o : TlV m H x l) : Thaw m H x (tktE.lst l) := by
  obtain ⟨⟨hl, h⟩, ho⟩ := o
  rcases h with ⟨rfl, hn⟩ | ⟨rfl, hn⟩ | ⟨b, p, cap, B, rfl, hcap, h1, h2, h3, h4, h5⟩
  · rw [List.eq_nil_of_length_eq_zero hn]; exact .nils
  · rw [List.eq_nil_of_length_eq_zero hn]; exact .emp
  · obtain ⟨hm, B2, hB2, hst⟩ := ho b rfl
    rw [h1] at hB2
    cases hB2
    refine .sl b p _ cap B _ hm h1 hst (by rw [hl]; exact h4) fun i a c ha hc => ?_
    have hi := (List.getElem?_eq_some_iff.1 hc).1
    rw [hl] at hi
    have hc2 := hc
    rw [← h5, List.getElem?_take, if_pos hi, List.getElem?_drop, ha] at hc2
    cases hc2
    exact .atom _ (Enc.row_flat _ _ (List.mem_of_getElem? hc))
theorem TlV.tail {m : Nat} {H : Heap} {x : AV} {t : Tkt} {l : List Tkt} (o : TlV m H x (t :: l)) {T' : TypeId → Option TD} {ty e : TypeId} (he : asliceElem T' ty = some (e, 12)) :
    ∃ y, aslice T' H ty x (some (.int .i64 1)) none none = some y ∧ TlV m H y l ∧ (y.blk = none ∨ y.blk = x.blk) := by
  obtain ⟨y, h1, h2, h3⟩ := Vs.slice o.1 he (lo := some (.int .i64 1)) (hi := none) (l := 1) (u := (t :: l).length) (abound_nat 1 rfl) rfl (by simp) (Nat.le_refl _)
  have e1 : (t :: l).length - 1 = l.length := by simp
  have e2 : ((tktE.row (t :: l)).drop (1 * 12)).take (((t :: l).length - 1) * 12) = tktE.row l := by
    have := Enc.row_drop (E := tktE) (t :: l) 1
    rw [show (1 * 12 : Nat) = 1 * tktE.sz from rfl, this, e1, List.drop_one, List.tail_cons, List.take_of_length_le (by rw [Enc.row_length]; exact Nat.le_refl _)]
  rw [e2, e1] at h2
  exact ⟨y, h1, ⟨h2, fun b hb => o.2 b (by rcases h3 with h3 | h3; (rw [hb] at h3; cases h3); rw [← h3, hb])⟩, h3⟩
structure TlO (m : Nat) (H : Heap) (p : Nat) (qs : List AV) (l : List (List Tkt)) : Prop where
  len : qs.length = l.length
  ge : m ≤ p
  blk : ∃ st rest, H[p]? = some (⟨qs ++ rest, 1, st⟩ : Blk) ∧ st.own = true
  el : ∀ (i : Nat) x t, qs[i]? = some x → l[i]? = some t → TlV m H x t ∧ x.blk ≠ some p
theorem BxO.tl {m p : Nat} {H : Heap} {ps : List AV} {l : List (List Tkt)} (o : BxO m H p ps l) : TlO m H p ps l :=
  ⟨o.len, o.ge, o.blk, fun i x t hx ht => ⟨TlV.of (o.el i x t hx ht).1, (o.el i x t hx ht).2⟩⟩
section
variable {m p : Nat} {H : Heap} {ps : List AV} {l : List (List Tkt)} {T' : TypeId → Option TD}
theorem TlO.get (o : TlO m H p ps l) {i : Nat} (h : i < l.length) : ∃ x, ps[i]? = some x ∧ l[i]? = some l[i] ∧ TlV m H x l[i] ∧ x.blk ≠ some p := by
  have h1 := List.getElem?_eq_getElem (l := ps) (i := i) (by rw [o.len]; exact h)
  have h2 := List.getElem?_eq_getElem h
  exact ⟨_, h1, h2, o.el i _ _ h1 h2⟩
theorem TlO.lt (o : TlO m H p ps l) : p < H.length := by
  obtain ⟨st, rest, h, -⟩ := o.blk
  exact (List.getElem?_eq_some_iff.1 h).1
theorem TlO.read (o : TlO m H p ps l) {i : Nat} {x : AV} (hx : ps[i]? = some x) : H.read p i 1 = some [x] := by
  obtain ⟨st, rest, h, h2⟩ := o.blk
  obtain ⟨hi, e⟩ := List.getElem?_eq_some_iff.1 hx
  unfold Heap.read
  rw [h]
  simp only [own_alive h2, true_and]
  rw [if_pos (by rw [List.length_append]; omega)]
  simp only [Option.some.injEq]
  rw [List.drop_append_of_le_length (by omega), List.take_append_of_le_length (by rw [List.length_drop]; omega), List.drop_eq_getElem_cons hi, e]
  rfl
theorem TlO.store (o : TlO m H p ps l) {i : Nat} {x : AV} (hx : ps[i]? = some x) {te : TypeId} (hte : asize T' te = some 1) {s : AV} (hso : s.solid = true) (hc : s.cells = [s]) :
    ∃ st rest, st.own = true ∧ astore T' H te (.ptr p i) s = some (List.set H p ⟨ps.set i s ++ rest, 1, st⟩) := by
  obtain ⟨st, rest, h, hst⟩ := o.blk
  have hi : i < ps.length := (List.getElem?_eq_some_iff.1 hx).1
  refine ⟨st, rest, hst, ?_⟩
  simp only [astore, hte, h, hst, hso, hc, List.length_cons, List.length_nil, true_and]
  rw [if_pos (by rw [List.length_append]; omega), wr_left _ _ _ _ (by simp; omega), wr_one _ _ _ (by omega)]
theorem TlO.upd (o : TlO m H p ps l) {i : Nat} {x y : AV} {t2 : List Tkt} (hx : ps[i]? = some x) (hy : TlV m H y t2) (hn : y.blk = none ∨ y.blk = x.blk) (rest : List AV) (st : St) (hst : st.own = true) : TlO m (List.set H p ⟨ps.set i y ++ rest, 1, st⟩) p (ps.set i y) (l.set i t2) := by
  have hi : i < ps.length := (List.getElem?_eq_some_iff.1 hx).1
  have hyp : y.blk ≠ some p := fun e => by
    rcases hn with h | h
    · rw [e] at h; cases h
    · exact (o.el i x _ hx (List.getElem?_eq_getElem (by rw [← o.len]; exact hi))).2 (by rw [← h, e])
  refine ⟨by rw [List.length_set, List.length_set]; exact o.len, o.ge, ⟨st, rest, List.getElem?_set_self o.lt, hst⟩, fun j z u hz hu => ?_⟩
  by_cases e : i = j
  · subst e
    rw [List.getElem?_set_self hi] at hz
    rw [List.getElem?_set_self (by rw [← o.len]; exact hi)] at hu
    simp only [Option.some.injEq] at hz hu
    subst hz; subst hu
    exact ⟨hy.same fun b hb => List.getElem?_set_ne fun e => hyp (by rw [hb, e]), hyp⟩
  · rw [List.getElem?_set_ne e] at hz hu
    obtain ⟨g1, g2⟩ := o.el j z u hz hu
    exact ⟨g1.same fun b hb => List.getElem?_set_ne fun e => g2 (by rw [hb, e]), g2⟩
theorem TlO.low {G : Heap} (o : TlO m H p ps l) (h : ∀ b, m ≤ b → b < H.length → G[b]? = H[b]?) : TlO m G p ps l := by
  refine ⟨o.len, o.ge, ?_, fun i x t hx ht => ?_⟩
  · obtain ⟨st, rest, h1, h2⟩ := o.blk
    exact ⟨st, rest, by rw [h p o.ge o.lt]; exact h1, h2⟩
  · obtain ⟨g1, g2⟩ := o.el i x t hx ht
    exact ⟨g1.same fun b hb => h b (g1.2 b hb).1 (by obtain ⟨_, _, hB, _⟩ := g1.2 b hb; exact (List.getElem?_eq_some_iff.1 hB).1), g2⟩
theorem TlO.mono (o : TlO m H p ps l) {m2 : Nat} (hm : m2 ≤ m) : TlO m2 H p ps l :=
  ⟨o.len, Nat.le_trans hm o.ge, o.blk, fun i x t hx ht => ⟨⟨(o.el i x t hx ht).1.1, fun b hb => ⟨Nat.le_trans hm ((o.el i x t hx ht).1.2 b hb).1, ((o.el i x t hx ht).1.2 b hb).2⟩⟩, (o.el i x t hx ht).2⟩⟩
theorem TlO.thaw (o : TlO m H p ps l) : Thaw m H (.sl p 0 l.length none) (boxE.lst l) := by
  obtain ⟨st, rest, h, hst⟩ := o.blk
  have hlen := o.len
  refine .sl p 0 _ _ _ _ o.ge h hst ?_ fun i a c ha hc => ?_
  · rw [boxE_row, List.length_map, List.length_append]; omega
  · rw [Nat.zero_add] at ha
    rw [boxE_row] at hc
    have hi : i < l.length := by have := (List.getElem?_eq_some_iff.1 hc).1; rwa [List.length_map] at this
    rw [List.getElem?_append_left (by omega)] at ha
    rw [List.getElem?_map, List.getElem?_eq_getElem hi] at hc
    cases hc
    exact (o.el _ _ _ ha (List.getElem?_eq_getElem hi)).1.thaw
end
def takeBx (b : List (List Tkt)) (js : List Int) : List (List Tkt) := js.foldl (fun b j => b.set j.toNat ((b[j.toNat]?.getD []).drop 1)) b
theorem takeBx_snoc (b : List (List Tkt)) (js : List Int) (k : Nat) : takeBx b (js ++ [(k : Int)]) = (takeBx b js).set k (((takeBx b js)[k]?.getD []).drop 1) := by
  unfold takeBx
  rw [List.foldl_append]
  simp only [List.foldl_cons, List.foldl_nil, Int.toNat_natCast]
theorem takeBx_length (b : List (List Tkt)) (js : List Int) : (takeBx b js).length = b.length := by
  unfold takeBx
  induction js generalizing b with
  | nil => rfl
  | cons j js ih => rw [List.foldl_cons, ih, List.length_set]
theorem takeBx_get {js : List Int} {k : Nat} : ∀ (b : List (List Tkt)), (∀ j ∈ js, ∃ k : Nat, j = k) → (k : Int) ∉ js → (takeBx b js)[k]? = b[k]? := by
  induction js with
  | nil => intro b _ _; rfl
  | cons j js ih =>
    intro b hj h
    have e : takeBx b (j :: js) = takeBx (b.set j.toNat ((b[j.toNat]?.getD []).drop 1)) js := rfl
    rw [e, ih _ (fun j hm => hj j (.tail _ hm)) (fun hm => h (.tail _ hm)), List.getElem?_set_ne]
    obtain ⟨z, rfl⟩ := hj j (.head _)
    intro e2
    rw [Int.toNat_natCast] at e2
    exact h (by rw [e2]; exact .head _)
theorem nodup_take {js : List Int} (h : js.Nodup) {i : Nat} (hi : i < js.length) : js[i] ∉ js.take i := fun hm => by
  obtain ⟨a, ha, e⟩ := List.getElem_of_mem hm
  rw [List.length_take] at ha
  rw [List.getElem_take] at e
  exact List.pairwise_iff_getElem.1 h a i (by omega) hi (by omega) e
def takeR (q : Que) (s : Int) : Que × Tkt × Int :=
  if ¬ q.may then (que0, tkt0, 8) else if s < 0 ∨ s ≥ q.bx.length then (que0, tkt0, 2) else if readyB q.bx s.toNat = false then (que0, tkt0, 6)
  else match q.bx[s.toNat]?.getD [] with
    | [] => (que0, tkt0, 6)
    | t :: _ => (⟨q.next, takeBx q.bx (shardsL t q.bx.length)⟩, t, 0)
open Go Go.Proofs Go.Proofs.PI
/-! ### what a command needs -/
theorem kGo_all (l : List (List UInt8)) : kGo [] l = (decide (∀ k ∈ l, 1 ≤ k.length ∧ k.length ≤ 32) && decide l.Nodup) := by
  rw [Bool.eq_iff_iff, kGo_iff]
  simp
theorem mem_needL {c : Cmd} {n : Int} {m : Nat} {z : Int} : z ∈ needL c n m ↔ ∃ i : Nat, i < m ∧ needB c n i = true ∧ (i : Int) = z := by
  simp only [needL, List.mem_map, List.mem_filter, List.mem_range]
  exact ⟨fun ⟨i, ⟨h1, h2⟩, h3⟩ => ⟨i, h1, h2, h3⟩, fun ⟨i, h1, h2, h3⟩ => ⟨i, ⟨h1, h2⟩, h3⟩⟩
theorem cmdB_iff {c : Cmd} : cmdB c = true ↔ (1 ≤ c.kind ∧ c.kind ≤ 11 ∧ 0 ≤ c.ten ∧ c.ten < 4) ∧ (loK c.kind ≤ c.keys.length ∧ c.keys.length ≤ hiK c.kind) ∧ (∀ k ∈ c.keys, 1 ≤ k.length ∧ k.length ≤ 32) ∧ c.keys.Nodup ∧ restB c = true := by
  simp only [cmdB, keysB, kGo_all, Bool.and_eq_true, decide_eq_true_eq]
  exact ⟨fun ⟨⟨h1, h2, h3, h4⟩, h5⟩ => ⟨h1, h2, h3, h4, h5⟩, fun ⟨h1, h2, h3, h4, h5⟩ => ⟨⟨h1, h2, h3, h4⟩, h5⟩⟩
theorem hstep_nn (h : Int) (b : UInt8) : 0 ≤ hstep h b := by unfold hstep; rw [IntKind.wrap_u64]; omega
theorem foldl_nn : ∀ (l : List UInt8) (h : Int), 0 ≤ h → 0 ≤ l.foldl hstep h
  | [], h, hh => hh
  | b :: l, h, hh => foldl_nn l _ (hstep_nn h b)
theorem hash_nn (s : List UInt8) : 0 ≤ hash s := foldl_nn s _ (by decide)
theorem shard_range {c : Cmd} (h : cmdB c = true) {k : List UInt8} (hk : k ∈ c.keys) {n : Int} (h1 : 1 ≤ n) (h4 : n ≤ 4) : ∃ i : Nat, i < n.toNat ∧ (shardL c.ten k n).1 = i := by
  obtain ⟨g1, g2, g3, _⟩ := cmdB_iff.1 h
  have gk := g3 k hk
  have hkb : keyB k = true := by unfold keyB; rw [decide_eq_true_eq]; exact gk
  unfold shardL
  rw [if_neg (by omega), if_neg (by simp [hkb]), if_neg (by omega)]
  have hn : IntKind.u64.wrap n = n := by rw [IntKind.wrap_u64]; omega
  have q0 := Int.tmod_nonneg n (hash_nn (tbyte c.ten :: k))
  have q4 := Int.tmod_lt_of_pos (hash (tbyte c.ten :: k)) (show 0 < n by omega)
  have hw : IntKind.i64.wrap ((hash (tbyte c.ten :: k)).tmod n) = (hash (tbyte c.ten :: k)).tmod n := i64_id _ (by omega) (by omega)
  rw [hn]
  simp only [hw]
  exact ⟨((hash (tbyte c.ten :: k)).tmod n).toNat, by omega, by omega⟩
theorem shE_ok {c : Cmd} {n : Int} : shE c n = 0 ↔ cmdB c = true ∧ 1 ≤ n ∧ n ≤ 4 := by
  unfold shE
  cases cmdB c
  · simp
  · simp only [Bool.true_eq_false, if_false, true_and]
    split <;> simp <;> omega
theorem mem_shL {c : Cmd} {n : Int} (h : shE c n = 0) {z : Int} : z ∈ shL c n ↔ ∃ i : Nat, i < n.toNat ∧ needB c n i = true ∧ (i : Int) = z := by
  rw [shL, if_pos h]; exact mem_needL
theorem key_in {c : Cmd} {n : Int} (h : shE c n = 0) {k : List UInt8} (hk : k ∈ c.keys) : (shardL c.ten k n).1 ∈ shL c n := by
  obtain ⟨h1, h2, h3⟩ := shE_ok.1 h
  obtain ⟨i, hi, he⟩ := shard_range h1 hk h2 h3
  rw [mem_shL h]
  refine ⟨i, hi, ?_, he.symm⟩
  unfold needB
  rw [Bool.or_eq_true, List.any_eq_true]
  exact .inr ⟨k, hk, by simp [he]⟩
/-! ### whose boxes hold what is left -/
theorem shardsL_filter (t : Tkt) (n : Nat) : shardsL t n = ((List.range n).filter fun i : Nat => decide ((i : Int) ∈ shardsL t n)).map fun i : Nat => (i : Int) := by
  have key : ∀ p : Nat → Bool, ((List.range n).filter p).map (fun i : Nat => (i : Int)) = ((List.range n).filter fun i : Nat => decide ((i : Int) ∈ ((List.range n).filter p).map fun i : Nat => (i : Int))).map fun i : Nat => (i : Int) := fun p => by
    congr 1
    refine List.filter_congr fun i hi => ?_
    rw [Bool.eq_iff_iff, decide_eq_true_eq, List.mem_map]
    constructor
    · intro h; exact ⟨i, List.mem_filter.2 ⟨hi, h⟩, rfl⟩
    · rintro ⟨j, hj, e⟩
      have : j = i := by omega
      subst this
      exact (List.mem_filter.1 hj).2
  by_cases hk : t.kind = 1
  · have e : shardsL t n = shL t.cmd n := by unfold shardsL; rw [if_pos hk]
    rw [e]
    unfold shL
    split
    · unfold needL
      rw [Int.toNat_natCast]
      exact key _
    · simp
  · have e : shardsL t n = rangeI n := by unfold shardsL; rw [if_neg hk]
    rw [e]
    unfold rangeI
    have h1 : (List.range n).filter (fun _ => true) = List.range n := List.filter_eq_self.2 fun _ _ => rfl
    have := key fun _ => true
    rw [h1] at this
    exact this
structure RemI (n N : Nat) (R : List Tkt) : Prop where
  len : R.length ≤ N
  num : R.Pairwise fun a b => a.num < b.num
  rng : ∀ t ∈ R, 0 ≤ t.num ∧ t.num < N
  may : ∀ t ∈ R, t.mayB = true
  fit : ∀ t ∈ R, t.cmd.keys.length ≤ 1000 ∧ ∀ k ∈ t.cmd.keys, k.length ≤ 100000
theorem RemI.sub {n N : Nat} {R S : List Tkt} (h : RemI n N R) (hs : S.Sublist R) : RemI n N S :=
  ⟨Nat.le_trans hs.length_le h.len, h.num.sublist hs, fun t ht => h.rng t (hs.subset ht), fun t ht => h.may t (hs.subset ht), fun t ht => h.fit t (hs.subset ht)⟩
theorem RemI.inj {n N : Nat} {R : List Tkt} (h : RemI n N R) {a b : Tkt} (ha : a ∈ R) (hb : b ∈ R) (e : a.num = b.num) : a = b := by
  obtain ⟨i, hi, rfl⟩ := List.getElem_of_mem ha
  obtain ⟨j, hj, rfl⟩ := List.getElem_of_mem hb
  rcases Nat.lt_trichotomy i j with g | g | g
  · have := List.pairwise_iff_getElem.1 h.num i j hi hj g; omega
  · subst g; rfl
  · have := List.pairwise_iff_getElem.1 h.num j i hj hi g; omega
theorem RemI.snoc {n N : Nat} {R : List Tkt} (h : RemI n N R) {t : Tkt} (ht : t.mayB = true) (hf : t.cmd.keys.length ≤ 1000 ∧ ∀ k ∈ t.cmd.keys, k.length ≤ 100000) : RemI n (N + 1) (R ++ [t.at_ N]) := by
  refine ⟨by rw [List.length_append]; have := h.len; simp only [List.length_cons, List.length_nil]; omega, ?_, ?_, ?_, ?_⟩
  · rw [List.pairwise_append]
    refine ⟨h.num, by simp, fun a ha b hb => ?_⟩
    rw [List.mem_singleton.1 hb]
    exact (h.rng a ha).2
  all_goals
    intro u hu
    rcases List.mem_append.1 hu with hu | hu
  · have := h.rng u hu; omega
  · rw [List.mem_singleton.1 hu]; show (0 : Int) ≤ (N : Int) ∧ (N : Int) < ((N + 1 : Nat) : Int); omega
  · exact h.may u hu
  · rw [List.mem_singleton.1 hu]; exact ht
  · exact h.fit u hu
  · rw [List.mem_singleton.1 hu]; exact hf
theorem shardsL_ne {t : Tkt} (ht : t.mayB = true) {n : Nat} (h1 : 1 ≤ n) (h4 : n ≤ 4) : shardsL t n ≠ [] := by
  intro e
  unfold shardsL at e
  split at e
  · rename_i hk
    unfold Tkt.mayB at ht
    rw [if_pos hk, Bool.and_eq_true] at ht
    have hE : shE t.cmd n = 0 := shE_ok.2 ⟨ht.1, by omega, by omega⟩
    by_cases h11 : t.cmd.kind = 11
    · have := (mem_shL hE (z := 0)).2 ⟨0, by omega, by unfold needB; simp [h11], rfl⟩
      rw [e] at this; cases this
    · obtain ⟨_, ⟨h2, _⟩, _⟩ := cmdB_iff.1 ht.1
      unfold loK at h2
      rw [if_neg h11] at h2
      have hl : 0 < t.cmd.keys.length := by omega
      have := key_in hE (List.getElem_mem hl)
      rw [e] at this; cases this
  · have := rangeI_len n
    rw [e] at this
    simp at this; omega
open Go Go.Proofs Go.Proofs.PI
/-! ### are two tickets the same; have two lists a number in common; is what was taken orderly -/
theorem same12_spec (x y : Tkt) (hn : x.cmd.keys.length ≤ 1000) (H : Heap) : WC Try.prog 25 [x.av, y.av] H fun r H' => r = .bool (decide (x = y)) ∧ H' = H := by
  refine WC_val fun K hK => ?_
  have sc := fun J => sameCmd_spec x.cmd y.cmd hn J
  obtain ⟨a1, a2, ca, a3, a4⟩ := x
  obtain ⟨b1, b2, cb, b3, b4⟩ := y
  simp only at sc hn
  have hne : ∀ {P : Prop}, ¬ P → ((⟨a1, a2, ca, a3, a4⟩ : Tkt) = ⟨b1, b2, cb, b3, b4⟩ → P) → decide ((⟨a1, a2, ca, a3, a4⟩ : Tkt) = ⟨b1, b2, cb, b3, b4⟩) = false := fun h1 h2 => decide_eq_false (fun h => h1 (h2 h))
  unfold Tkt.av
  unfold Cmd.av at sc
  simp only
  by_cases q1 : a1 = b1
  rotate_left
  · rw [hne q1 (fun h => by injection h)] at hK
    clear sc hne
    refine WC_of_body hT Try.func25 rfl (by simp [Try.f25]) (by simp [Try.f25]) (wx_sound hT _ ?_)
    simp only [Try.f25]
    repeat' (first | simp only [go_sem, Nat.reduceLT, Nat.reduceEqDiff, Nat.reduceAdd, Nat.reduceMul, Nat.reduceSub, Nat.reduceLeDiff, Int.reduceToNat, Int.reduceNeg, Int.reduceLT, Int.reduceLE, Int.reduceEq, reduceCtorEq, Int.natCast_zero, Int.natCast_one, Int.cast_ofNat_Int, Bool.not_not, false_eq_decide, true_eq_decide, hread0, hreadk, read_cons0, read_consk, astore_h0, astore_hk, hget0, hgetk, hset0, hsetk, hlen, hcat, Nat.add_assoc, Nat.add_zero, Nat.zero_add, List.length_append, and_true, true_and, AV.flat, *, -hK] | with_reducible refine IfB_dec (fun h => ?_) (fun h => ?_) | with_reducible refine Guard_dec (fun h => ?_) (fun h => ?_) | with_reducible refine Guard_ndec (fun h => ?_) (fun h => ?_) | with_reducible refine Guard_not (fun h => ?_) (fun h => ?_) | with_reducible refine IfB_ndec (fun h => ?_) (fun h => ?_) | with_reducible refine IfB_not (fun h => ?_) (fun h => ?_) | with_reducible refine Guard_split (fun h => ?_) (fun h => ?_) | with_reducible refine IfB_split (fun h => ?_) (fun h => ?_))
    exact hK _ _ (.bool _) (Keep.app _ _ _)
  by_cases q2 : a2 = b2
  rotate_left
  · rw [hne q2 (fun h => by injection h)] at hK
    clear sc hne
    refine WC_of_body hT Try.func25 rfl (by simp [Try.f25]) (by simp [Try.f25]) (wx_sound hT _ ?_)
    simp only [Try.f25]
    repeat' (first | simp only [go_sem, Nat.reduceLT, Nat.reduceEqDiff, Nat.reduceAdd, Nat.reduceMul, Nat.reduceSub, Nat.reduceLeDiff, Int.reduceToNat, Int.reduceNeg, Int.reduceLT, Int.reduceLE, Int.reduceEq, reduceCtorEq, Int.natCast_zero, Int.natCast_one, Int.cast_ofNat_Int, Bool.not_not, false_eq_decide, true_eq_decide, hread0, hreadk, read_cons0, read_consk, astore_h0, astore_hk, hget0, hgetk, hset0, hsetk, hlen, hcat, Nat.add_assoc, Nat.add_zero, Nat.zero_add, List.length_append, and_true, true_and, AV.flat, *, -hK] | with_reducible refine IfB_dec (fun h => ?_) (fun h => ?_) | with_reducible refine Guard_dec (fun h => ?_) (fun h => ?_) | with_reducible refine Guard_ndec (fun h => ?_) (fun h => ?_) | with_reducible refine Guard_not (fun h => ?_) (fun h => ?_) | with_reducible refine IfB_ndec (fun h => ?_) (fun h => ?_) | with_reducible refine IfB_not (fun h => ?_) (fun h => ?_) | with_reducible refine Guard_split (fun h => ?_) (fun h => ?_) | with_reducible refine IfB_split (fun h => ?_) (fun h => ?_))
    exact hK _ _ (.bool _) (Keep.app _ _ _)
  by_cases q3 : a3 = b3
  rotate_left
  · rw [hne q3 (fun h => by injection h)] at hK
    clear sc hne
    refine WC_of_body hT Try.func25 rfl (by simp [Try.f25]) (by simp [Try.f25]) (wx_sound hT _ ?_)
    simp only [Try.f25]
    repeat' (first | simp only [go_sem, Nat.reduceLT, Nat.reduceEqDiff, Nat.reduceAdd, Nat.reduceMul, Nat.reduceSub, Nat.reduceLeDiff, Int.reduceToNat, Int.reduceNeg, Int.reduceLT, Int.reduceLE, Int.reduceEq, reduceCtorEq, Int.natCast_zero, Int.natCast_one, Int.cast_ofNat_Int, Bool.not_not, false_eq_decide, true_eq_decide, hread0, hreadk, read_cons0, read_consk, astore_h0, astore_hk, hget0, hgetk, hset0, hsetk, hlen, hcat, Nat.add_assoc, Nat.add_zero, Nat.zero_add, List.length_append, and_true, true_and, AV.flat, *, -hK] | with_reducible refine IfB_dec (fun h => ?_) (fun h => ?_) | with_reducible refine Guard_dec (fun h => ?_) (fun h => ?_) | with_reducible refine Guard_ndec (fun h => ?_) (fun h => ?_) | with_reducible refine Guard_not (fun h => ?_) (fun h => ?_) | with_reducible refine IfB_ndec (fun h => ?_) (fun h => ?_) | with_reducible refine IfB_not (fun h => ?_) (fun h => ?_) | with_reducible refine Guard_split (fun h => ?_) (fun h => ?_) | with_reducible refine IfB_split (fun h => ?_) (fun h => ?_))
    exact hK _ _ (.bool _) (Keep.app _ _ _)
  by_cases q4 : a4 = b4
  rotate_left
  · rw [hne q4 (fun h => by injection h)] at hK
    clear sc hne
    refine WC_of_body hT Try.func25 rfl (by simp [Try.f25]) (by simp [Try.f25]) (wx_sound hT _ ?_)
    simp only [Try.f25]
    repeat' (first | simp only [go_sem, Nat.reduceLT, Nat.reduceEqDiff, Nat.reduceAdd, Nat.reduceMul, Nat.reduceSub, Nat.reduceLeDiff, Int.reduceToNat, Int.reduceNeg, Int.reduceLT, Int.reduceLE, Int.reduceEq, reduceCtorEq, Int.natCast_zero, Int.natCast_one, Int.cast_ofNat_Int, Bool.not_not, false_eq_decide, true_eq_decide, hread0, hreadk, read_cons0, read_consk, astore_h0, astore_hk, hget0, hgetk, hset0, hsetk, hlen, hcat, Nat.add_assoc, Nat.add_zero, Nat.zero_add, List.length_append, and_true, true_and, AV.flat, *, -hK] | with_reducible refine IfB_dec (fun h => ?_) (fun h => ?_) | with_reducible refine Guard_dec (fun h => ?_) (fun h => ?_) | with_reducible refine Guard_ndec (fun h => ?_) (fun h => ?_) | with_reducible refine Guard_not (fun h => ?_) (fun h => ?_) | with_reducible refine IfB_ndec (fun h => ?_) (fun h => ?_) | with_reducible refine IfB_not (fun h => ?_) (fun h => ?_) | with_reducible refine Guard_split (fun h => ?_) (fun h => ?_) | with_reducible refine IfB_split (fun h => ?_) (fun h => ?_))
    exact hK _ _ (.bool _) (Keep.app _ _ _)
  by_cases q5 : ca = cb
  · rw [decide_eq_true q5] at sc
    rw [decide_eq_true (show (⟨a1, a2, ca, a3, a4⟩ : Tkt) = ⟨b1, b2, cb, b3, b4⟩ by rw [q1, q2, q3, q4, q5])] at hK
    clear hne q5
    refine WC_of_body hT Try.func25 rfl (by simp [Try.f25]) (by simp [Try.f25]) (wx_sound hT _ ?_)
    simp only [Try.f25]
    repeat' (first | simp only [go_sem, Nat.reduceLT, Nat.reduceEqDiff, Nat.reduceAdd, Nat.reduceMul, Nat.reduceSub, Nat.reduceLeDiff, Int.reduceToNat, Int.reduceNeg, Int.reduceLT, Int.reduceLE, Int.reduceEq, reduceCtorEq, Int.natCast_zero, Int.natCast_one, Int.cast_ofNat_Int, Bool.not_not, false_eq_decide, true_eq_decide, hread0, hreadk, read_cons0, read_consk, astore_h0, astore_hk, hget0, hgetk, hset0, hsetk, hlen, hcat, Nat.add_assoc, Nat.add_zero, Nat.zero_add, List.length_append, and_true, true_and, AV.flat, *, -hK, -sc] | refine WC.call (sc _) ?_ | with_reducible refine IfB_dec (fun h => ?_) (fun h => ?_) | with_reducible refine Guard_dec (fun h => ?_) (fun h => ?_) | with_reducible refine Guard_ndec (fun h => ?_) (fun h => ?_) | with_reducible refine Guard_not (fun h => ?_) (fun h => ?_) | with_reducible refine IfB_ndec (fun h => ?_) (fun h => ?_) | with_reducible refine IfB_not (fun h => ?_) (fun h => ?_) | with_reducible refine Guard_split (fun h => ?_) (fun h => ?_) | with_reducible refine IfB_split (fun h => ?_) (fun h => ?_))
    exact hK _ _ (.bool _) (Keep.app _ _ _)
  · rw [decide_eq_false q5] at sc
    rw [hne q5 (fun h => by injection h)] at hK
    clear hne q5
    refine WC_of_body hT Try.func25 rfl (by simp [Try.f25]) (by simp [Try.f25]) (wx_sound hT _ ?_)
    simp only [Try.f25]
    repeat' (first | simp only [go_sem, Nat.reduceLT, Nat.reduceEqDiff, Nat.reduceAdd, Nat.reduceMul, Nat.reduceSub, Nat.reduceLeDiff, Int.reduceToNat, Int.reduceNeg, Int.reduceLT, Int.reduceLE, Int.reduceEq, reduceCtorEq, Int.natCast_zero, Int.natCast_one, Int.cast_ofNat_Int, Bool.not_not, false_eq_decide, true_eq_decide, hread0, hreadk, read_cons0, read_consk, astore_h0, astore_hk, hget0, hgetk, hset0, hsetk, hlen, hcat, Nat.add_assoc, Nat.add_zero, Nat.zero_add, List.length_append, and_true, true_and, AV.flat, *, -hK, -sc] | refine WC.call (sc _) ?_ | with_reducible refine IfB_dec (fun h => ?_) (fun h => ?_) | with_reducible refine Guard_dec (fun h => ?_) (fun h => ?_) | with_reducible refine Guard_ndec (fun h => ?_) (fun h => ?_) | with_reducible refine Guard_not (fun h => ?_) (fun h => ?_) | with_reducible refine IfB_ndec (fun h => ?_) (fun h => ?_) | with_reducible refine IfB_not (fun h => ?_) (fun h => ?_) | with_reducible refine Guard_split (fun h => ?_) (fun h => ?_) | with_reducible refine IfB_split (fun h => ?_) (fun h => ?_))
    exact hK _ _ (.bool _) (Keep.app _ _ _)
end Go.Proofs.Ytkmkhiipiflelaa

