import Derived.Test.YtkmkhiipiflelaaTktV
set_option linter.unusedSimpArgs false
set_option linter.unusedVariables false
set_option maxRecDepth 100000
set_option maxHeartbeats 2000000
namespace Go.Proofs.Ytkmkhiipiflelaa
open Go Go.Proofs Go.Proofs.PI
theorem boxB_mem {b : List (List Tkt)} {nx : Int} : ∀ {l : List Tkt} {last : Int}, boxB b nx last l = true → ∀ t ∈ l, last < t.num ∧ whereL b t = shardsL t b.length
  | [], _, _, t, ht => by simp at ht
  | x :: l, last, h, t, ht => by
    rw [boxB, Bool.and_eq_true, Bool.and_eq_true, Bool.and_eq_true, decide_eq_true_eq, decide_eq_true_eq] at h
    obtain ⟨⟨⟨_, h1⟩, h2⟩, h3⟩ := h
    rcases List.mem_cons.1 ht with rfl | ht
    · exact ⟨h1.1, h2⟩
    · have := boxB_mem h3 t ht
      exact ⟨by omega, this.2⟩
theorem boxB_head {b : List (List Tkt)} {nx : Int} {x : Tkt} {l : List Tkt} {last : Int} (h : boxB b nx last (x :: l) = true) : ∀ t ∈ x :: l, x.num ≤ t.num := by
  intro t ht
  rw [boxB, Bool.and_eq_true] at h
  rcases List.mem_cons.1 ht with rfl | ht
  · exact Int.le_refl _
  · have := (boxB_mem h.2 t ht).1
    omega
theorem mem_whereL {b : List (List Tkt)} {t : Tkt} {j : Int} : j ∈ whereL b t ↔ ∃ k : Nat, j = k ∧ ∃ h : k < b.length, t ∈ b[k] := by
  unfold whereL
  rw [List.mem_map]
  constructor
  · rintro ⟨k, hk, rfl⟩
    rw [List.mem_filter, List.mem_range] at hk
    refine ⟨k, rfl, hk.1, ?_⟩
    have := hk.2
    rw [List.getElem?_eq_getElem hk.1] at this
    simpa using this
  · rintro ⟨k, rfl, h, ht⟩
    exact ⟨k, by rw [List.mem_filter, List.mem_range]; exact ⟨h, by rw [List.getElem?_eq_getElem h]; simpa using ht⟩, rfl⟩
def headN (b : List (List Tkt)) (j : Int) : Int := match b[j.toNat]?.getD [] with
  | [] => 0
  | t :: _ => t.num
def readyB (b : List (List Tkt)) (i : Nat) : Bool := match b[i]?.getD [] with
  | [] => false
  | t :: _ => !((shardsL t b.length).any fun j => decide (¬ headN b j = t.num))
theorem readyF_spec (nx : Int) (bs : List (List Tkt)) (t h : Tkt) (l : List Tkt) (k : Nat) (hk : k < bs.length) (hl : bs[k] = h :: l) (qb tb : Nat) (J : Heap) (g0 : J[qb]? = some ⟨[.int .i64 nx, boxE.lst bs], 0, .full⟩) (g1 : J[tb]? = some ⟨t.cs, 0, .full⟩) :
    WC Try.prog 46 [.int .i64 k, .ptr qb 0, .ptr tb 0] J fun r H' => r = .bool (decide (¬ h.num = t.num)) ∧ H' = J := by
  refine WC_of_K fun K hK => ?_
  have e1 := at_enc (E := boxE) (T := T) (k := .i64) se22 hk rfl
  have e2 := at_enc (E := tktE) (T := T) (xs := h :: l) (i := 0) (k := .i64) (z := 0) se31 (by simp) rfl
  rw [boxE_cells, hl] at e1
  rw [tktE_cells] at e2
  simp only [List.getElem_cons_zero] at e2
  unfold Tkt.cs at g1
  generalize h :: l = hs at *
  refine WC_of_body hT Try.func46 rfl (by simp [Try.f46]) (by simp [Try.f46]) (wx_sound hT _ ?_)
  simp only [Try.f46]
  repeat' (first | simp only [go_sem, Nat.reduceLT, Nat.reduceEqDiff, Nat.reduceAdd, Nat.reduceMul, Nat.reduceSub, Nat.reduceLeDiff, Int.reduceToNat, Int.reduceNeg, Int.reduceLT, Int.reduceLE, Int.reduceEq, reduceCtorEq, Int.natCast_zero, Int.natCast_one, Int.cast_ofNat_Int, Bool.not_not, false_eq_decide, true_eq_decide, hread0, hreadk, read_cons0, read_consk, astore_h0, astore_hk, hget0, hgetk, hset0, hsetk, hlen, hcat, Nat.add_assoc, Nat.add_zero, Nat.zero_add, List.length_append, and_true, true_and, AV.flat, g0, get_app g0, read_get g0, read_app g0, g1, get_app g1, read_get g1, read_app g1, *, -hK, -hl] | with_reducible refine IfB_dec (fun h => ?_) (fun h => ?_) | with_reducible refine Guard_dec (fun h => ?_) (fun h => ?_) | with_reducible refine Guard_ndec (fun h => ?_) (fun h => ?_) | with_reducible refine Guard_not (fun h => ?_) (fun h => ?_) | with_reducible refine IfB_ndec (fun h => ?_) (fun h => ?_) | with_reducible refine IfB_not (fun h => ?_) (fun h => ?_) | with_reducible refine Guard_split (fun h => ?_) (fun h => ?_) | with_reducible refine IfB_split (fun h => ?_) (fun h => ?_))
  refine WX_rows hT hmix [(0, none), (1, none), (2, none), (3, none), (4, none), (5, none), (6, none), (7, none), (8, none), (9, none), (10, none), (11, none)] (by kernel_rfl) ?_
  repeat' (first | simp only [go_sem, Nat.reduceLT, Nat.reduceEqDiff, Nat.reduceAdd, Nat.reduceMul, Nat.reduceSub, Nat.reduceLeDiff, Int.reduceToNat, Int.reduceNeg, Int.reduceLT, Int.reduceLE, Int.reduceEq, reduceCtorEq, Int.natCast_zero, Int.natCast_one, Int.cast_ofNat_Int, Bool.not_not, false_eq_decide, true_eq_decide, hread0, hreadk, read_cons0, read_consk, astore_h0, astore_hk, hget0, hgetk, hset0, hsetk, hlen, hcat, Nat.add_assoc, Nat.add_zero, Nat.zero_add, List.length_append, and_true, true_and, AV.flat, g0, get_app g0, read_get g0, read_app g0, g1, get_app g1, read_get g1, read_app g1, *, -hK, -hl] | with_reducible refine IfB_dec (fun h => ?_) (fun h => ?_) | with_reducible refine Guard_dec (fun h => ?_) (fun h => ?_) | with_reducible refine Guard_ndec (fun h => ?_) (fun h => ?_) | with_reducible refine Guard_not (fun h => ?_) (fun h => ?_) | with_reducible refine IfB_ndec (fun h => ?_) (fun h => ?_) | with_reducible refine IfB_not (fun h => ?_) (fun h => ?_) | with_reducible refine Guard_split (fun h => ?_) (fun h => ?_) | with_reducible refine IfB_split (fun h => ?_) (fun h => ?_))
  exact hK _ _ ⟨by rw [decide_not], rfl⟩
theorem iIdxF_spec (xs : List Int) (g : FuncId) (cs : List AV) (p : Int → Bool) (hn : xs.length ≤ 140737488355328) (H : Heap) (hp : ∀ x ∈ xs, WC Try.prog g (AV.int .i64 x :: cs) H fun r H' => r = .bool (p x) ∧ H' = H) :
    WC Try.prog 49 [((Enc.int .i64)).lst xs, .fn g [] cs] H fun r H' => r = .int .i64 (idxI (xs.findIdx? p)) ∧ H' = H := by
  refine WC_of_K fun K hK => ?_
  refine WC_of_body hT Try.func49 rfl (by simp [Try.f49]) (by simp [Try.f49]) (wx_sound hT _ ?_)
  simp only [Try.f49]
  repeat' (first | simp only [go_sem, Nat.reduceLT, Nat.reduceEqDiff, Nat.reduceAdd, Nat.reduceMul, Nat.reduceSub, Nat.reduceLeDiff, Int.reduceToNat, Int.reduceNeg, Int.reduceLT, Int.reduceLE, Int.reduceEq, reduceCtorEq, Int.natCast_zero, Int.natCast_one, Int.cast_ofNat_Int, Bool.not_not, false_eq_decide, true_eq_decide, hread0, hreadk, read_cons0, read_consk, astore_h0, astore_hk, hget0, hgetk, hset0, hsetk, hlen, hcat, Nat.add_assoc, Nat.add_zero, Nat.zero_add, List.length_append, and_true, true_and, AV.flat, *, -hK] | with_reducible refine IfB_dec (fun h => ?_) (fun h => ?_) | with_reducible refine Guard_dec (fun h => ?_) (fun h => ?_) | with_reducible refine Guard_ndec (fun h => ?_) (fun h => ?_) | with_reducible refine Guard_not (fun h => ?_) (fun h => ?_) | with_reducible refine IfB_ndec (fun h => ?_) (fun h => ?_) | with_reducible refine IfB_not (fun h => ?_) (fun h => ?_) | with_reducible refine Guard_split (fun h => ?_) (fun h => ?_) | with_reducible refine IfB_split (fun h => ?_) (fun h => ?_))
  refine WX_loopS [0, 1, 7] (fun k fr' H' => ∃ i : Nat, k = xs.length - i ∧ i ≤ xs.length ∧ fr'.get 8 = .int .i64 i ∧ H' = H ∧ ∀ j (hj : j < i) (hx : j < xs.length), p xs[j] = false) xs.length ⟨0, rfl, by omega, by simp only [go_sem, Nat.reduceLT, Nat.reduceEqDiff, Nat.reduceAdd, Nat.reduceMul, Nat.reduceSub, Nat.reduceLeDiff, Int.reduceToNat, Int.reduceNeg, Int.reduceLT, Int.reduceLE, Int.reduceEq, reduceCtorEq]; rfl, rfl, fun j hj => by omega⟩ ?_
  rintro k fr' H' A R hA hs hg hR ⟨i, rfl, hi, f8, rfl, hno⟩
  have s0 := hg 0 (by decide)
  have s1 := hg 1 (by decide)
  have s7 := hg 7 (by decide)
  simp only [Fr.get_put, Fr.get_init, List.getD_cons_zero, List.getD_cons_succ, Nat.reduceEqDiff, if_true, if_false] at s0 s1 s7
  refine wx_sound hT _ ?_
  repeat' (first | simp only [go_sem, Nat.reduceLT, Nat.reduceEqDiff, Nat.reduceAdd, Nat.reduceMul, Nat.reduceSub, Nat.reduceLeDiff, Int.reduceToNat, Int.reduceNeg, Int.reduceLT, Int.reduceLE, Int.reduceEq, reduceCtorEq, Int.natCast_zero, Int.natCast_one, Int.cast_ofNat_Int, Bool.not_not, false_eq_decide, true_eq_decide, hread0, hreadk, read_cons0, read_consk, astore_h0, astore_hk, hget0, hgetk, hset0, hsetk, hlen, hcat, Nat.add_assoc, Nat.add_zero, Nat.zero_add, List.length_append, and_true, true_and, AV.flat, *, -hK] | with_reducible refine IfB_dec (fun h => ?_) (fun h => ?_) | with_reducible refine Guard_dec (fun h => ?_) (fun h => ?_) | with_reducible refine Guard_ndec (fun h => ?_) (fun h => ?_) | with_reducible refine Guard_not (fun h => ?_) (fun h => ?_) | with_reducible refine IfB_ndec (fun h => ?_) (fun h => ?_) | with_reducible refine IfB_not (fun h => ?_) (fun h => ?_) | with_reducible refine Guard_split (fun h => ?_) (fun h => ?_) | with_reducible refine IfB_split (fun h => ?_) (fun h => ?_))
  case refine_1 =>
    have hlt : i < xs.length := by omega
    have e1 := at_enc (E := (Enc.int .i64)) (k := .i64) se27 hlt rfl
    have e3 := inc_id hlt hn
    repeat' (first | simp only [go_sem, Nat.reduceLT, Nat.reduceEqDiff, Nat.reduceAdd, Nat.reduceMul, Nat.reduceSub, Nat.reduceLeDiff, Int.reduceToNat, Int.reduceNeg, Int.reduceLT, Int.reduceLE, Int.reduceEq, reduceCtorEq, Int.natCast_zero, Int.natCast_one, Int.cast_ofNat_Int, Bool.not_not, false_eq_decide, true_eq_decide, hread0, hreadk, read_cons0, read_consk, astore_h0, astore_hk, hget0, hgetk, hset0, hsetk, hlen, hcat, Nat.add_assoc, Nat.add_zero, Nat.zero_add, List.length_append, and_true, true_and, AV.flat, int_cells, *, -hK] | refine WC.call (hp _ (List.getElem_mem hlt)) ?_ | with_reducible refine IfB_dec (fun h => ?_) (fun h => ?_) | with_reducible refine Guard_dec (fun h => ?_) (fun h => ?_) | with_reducible refine Guard_ndec (fun h => ?_) (fun h => ?_) | with_reducible refine Guard_not (fun h => ?_) (fun h => ?_) | with_reducible refine IfB_ndec (fun h => ?_) (fun h => ?_) | with_reducible refine IfB_not (fun h => ?_) (fun h => ?_) | with_reducible refine Guard_split (fun h => ?_) (fun h => ?_) | with_reducible refine IfB_split (fun h => ?_) (fun h => ?_))
    case refine_1 =>
      refine hK _ _ ⟨?_, rfl⟩
      have : xs.findIdx? p = some i := by
        rw [List.findIdx?_eq_some_iff_getElem]
        exact ⟨hlt, h, fun j hj => by rw [hno j hj (by omega)]; simp⟩
      rw [this]; rfl
    case refine_2 =>
      refine hR _ _ (by (repeat (first | exact hs | refine hA _ _ _ (by decide) ?_))) (xs.length - (i + 1)) (by omega) ⟨i + 1, rfl, by omega, by simp only [go_sem, Nat.reduceLT, Nat.reduceEqDiff, Nat.reduceAdd, Nat.reduceMul, Nat.reduceSub, Nat.reduceLeDiff, Int.reduceToNat, Int.reduceNeg, Int.reduceLT, Int.reduceLE, Int.reduceEq, reduceCtorEq], rfl, fun j hj hx => ?_⟩
      · by_cases e : j = i
        · subst e; exact h
        · exact hno j (by omega) hx
  case refine_2 =>
    repeat' (first | simp only [go_sem, Nat.reduceLT, Nat.reduceEqDiff, Nat.reduceAdd, Nat.reduceMul, Nat.reduceSub, Nat.reduceLeDiff, Int.reduceToNat, Int.reduceNeg, Int.reduceLT, Int.reduceLE, Int.reduceEq, reduceCtorEq, Int.natCast_zero, Int.natCast_one, Int.cast_ofNat_Int, Bool.not_not, false_eq_decide, true_eq_decide, hread0, hreadk, read_cons0, read_consk, astore_h0, astore_hk, hget0, hgetk, hset0, hsetk, hlen, hcat, Nat.add_assoc, Nat.add_zero, Nat.zero_add, List.length_append, and_true, true_and, AV.flat, *, -hK] | with_reducible refine IfB_dec (fun h => ?_) (fun h => ?_) | with_reducible refine Guard_dec (fun h => ?_) (fun h => ?_) | with_reducible refine Guard_ndec (fun h => ?_) (fun h => ?_) | with_reducible refine Guard_not (fun h => ?_) (fun h => ?_) | with_reducible refine IfB_ndec (fun h => ?_) (fun h => ?_) | with_reducible refine IfB_not (fun h => ?_) (fun h => ?_) | with_reducible refine Guard_split (fun h => ?_) (fun h => ?_) | with_reducible refine IfB_split (fun h => ?_) (fun h => ?_))
    refine hK _ _ ⟨?_, rfl⟩
    have : xs.findIdx? p = none := by
      rw [List.findIdx?_eq_none_iff]
      intro x hx
      obtain ⟨j, hj, rfl⟩ := List.getElem_of_mem hx
      exact hno j (by omega) hj
    rw [this]; rfl
theorem iHasF_spec (xs : List Int) (g : FuncId) (cs : List AV) (p : Int → Bool) (hn : xs.length ≤ 140737488355328) (H : Heap) (hp : ∀ x ∈ xs, WC Try.prog g (AV.int .i64 x :: cs) H fun r H' => r = .bool (p x) ∧ H' = H) :
    WC Try.prog 33 [((Enc.int .i64)).lst xs, .fn g [] cs] H fun r H' => r = .bool (xs.any p) ∧ H' = H := by
  refine WC_of_K fun K hK => ?_
  refine WC_of_body hT Try.func33 rfl (by simp [Try.f33]) (by simp [Try.f33]) (wx_sound hT _ ?_)
  simp only [Try.f33]
  repeat' (first | simp only [go_sem, Nat.reduceLT, Nat.reduceEqDiff, Nat.reduceAdd, Nat.reduceMul, Nat.reduceSub, Nat.reduceLeDiff, Int.reduceToNat, Int.reduceNeg, Int.reduceLT, Int.reduceLE, Int.reduceEq, reduceCtorEq, Int.natCast_zero, Int.natCast_one, Int.cast_ofNat_Int, Bool.not_not, false_eq_decide, true_eq_decide, hread0, hreadk, read_cons0, read_consk, astore_h0, astore_hk, hget0, hgetk, hset0, hsetk, hlen, hcat, Nat.add_assoc, Nat.add_zero, Nat.zero_add, List.length_append, and_true, true_and, AV.flat, *, -hK] | refine WC.call (iIdxF_spec xs g cs p hn _ hp) ?_ | with_reducible refine IfB_dec (fun h => ?_) (fun h => ?_) | with_reducible refine Guard_dec (fun h => ?_) (fun h => ?_) | with_reducible refine Guard_ndec (fun h => ?_) (fun h => ?_) | with_reducible refine Guard_not (fun h => ?_) (fun h => ?_) | with_reducible refine IfB_ndec (fun h => ?_) (fun h => ?_) | with_reducible refine IfB_not (fun h => ?_) (fun h => ?_) | with_reducible refine Guard_split (fun h => ?_) (fun h => ?_) | with_reducible refine IfB_split (fun h => ?_) (fun h => ?_))
  refine hK _ _ ⟨?_, rfl⟩
  congr 1
  cases hf : xs.findIdx? p with
  | none =>
    rw [List.findIdx?_eq_none_iff] at hf
    have : xs.any p = false := by rw [List.any_eq_false]; intro x hx; simp [hf x hx]
    rw [this]; rfl
  | some i =>
    rw [List.findIdx?_eq_some_iff_getElem] at hf
    obtain ⟨hi, hp1, _⟩ := hf
    have : xs.any p = true := by rw [List.any_eq_true]; exact ⟨_, List.getElem_mem hi, hp1⟩
    rw [this]; simp [idxI]
theorem ready_spec (q : Que) (hq : q.may) (hb : qFit q.bx) (i : Nat) (hi : i < q.bx.length) (H : Heap) : WC Try.prog 30 [q.av, .int .i64 i] H fun r H' => r = .bool (readyB q.bx i) ∧ H' = H := by
  refine WC_val fun K hK => ?_
  obtain ⟨nx, bs⟩ := q
  have hl4 := hq.2.1
  have hall := hq.2.2.2.2
  obtain ⟨hb1, hb2⟩ := hb
  simp only at hi hl4 hall hb1 hb2 hK
  have e1 := at_enc (E := boxE) (T := T) (k := .i64) se22 hi rfl
  rw [boxE_cells] at e1
  have hr : readyB bs i = match bs[i] with
    | [] => false
    | t :: _ => !((shardsL t bs.length).any fun j => decide (¬ headN bs j = t.num)) := by unfold readyB; rw [List.getElem?_eq_getElem hi]; rfl
  rw [hr] at hK
  clear hr
  obtain ⟨-, hbx⟩ := hall _ (List.getElem_mem hi)
  obtain ⟨hl1, hl2⟩ := hb2 _ (List.getElem_mem hi)
  have hmem := fun t (h : t ∈ bs[i]) => (boxB_mem hbx t h).2
  unfold Que.av
  simp only
  generalize bs[i] = l at *
  cases l with
  | nil =>
    simp only at hK
    refine WC_of_body hT Try.func30 rfl (by simp [Try.f30]) (by simp [Try.f30]) (wx_sound hT _ ?_)
    simp only [Try.f30]
    repeat' (first | simp only [go_sem, Nat.reduceLT, Nat.reduceEqDiff, Nat.reduceAdd, Nat.reduceMul, Nat.reduceSub, Nat.reduceLeDiff, Int.reduceToNat, Int.reduceNeg, Int.reduceLT, Int.reduceLE, Int.reduceEq, reduceCtorEq, Int.natCast_zero, Int.natCast_one, Int.cast_ofNat_Int, Bool.not_not, false_eq_decide, true_eq_decide, hread0, hreadk, read_cons0, read_consk, astore_h0, astore_hk, hget0, hgetk, hset0, hsetk, hlen, hcat, Nat.add_assoc, Nat.add_zero, Nat.zero_add, List.length_append, and_true, true_and, AV.flat, *, -hK, -hall, -hb2, -hl2, -hmem, -hbx] | with_reducible refine IfB_dec (fun h => ?_) (fun h => ?_) | with_reducible refine Guard_dec (fun h => ?_) (fun h => ?_) | with_reducible refine Guard_ndec (fun h => ?_) (fun h => ?_) | with_reducible refine Guard_not (fun h => ?_) (fun h => ?_) | with_reducible refine IfB_ndec (fun h => ?_) (fun h => ?_) | with_reducible refine IfB_not (fun h => ?_) (fun h => ?_) | with_reducible refine Guard_split (fun h => ?_) (fun h => ?_) | with_reducible refine IfB_split (fun h => ?_) (fun h => ?_))
    exact hK _ _ (.bool _) (Keep.app _ _ _)
  | cons t l =>
  simp only at hK
  have e2 := at_enc (E := tktE) (T := T) (xs := t :: l) (i := 0) (k := .i64) (z := 0) se31 (by simp) rfl
  rw [tktE_cells] at e2
  simp only [List.getElem_cons_zero] at e2
  obtain ⟨hq1, hq2⟩ := hl2 t (.head _)
  have sh := fun J => tshards_spec t bs.length hl4 hq1 hq2 J
  have hw := hmem t (.head _)
  have hlen : ¬ ((t :: l).length : Int) = 0 := by simp only [List.length_cons]; omega
  have cl := fun (J : Heap) (g0 : J[H.length]? = some ⟨[.int .i64 nx, boxE.lst bs], 0, .full⟩) (g1 : J[H.length + 1]? = some ⟨t.cs, 0, .full⟩) =>
    iHasF_spec (shardsL t bs.length) 46 [.ptr H.length 0, .ptr (H.length + 1) 0] (fun j => decide (¬ headN bs j = t.num)) (by rw [← hw]; have := whereN_len bs t bs.length; show (whereN bs t bs.length).length ≤ _; omega) J (fun j hj => by
      rw [← hw] at hj
      obtain ⟨k, rfl, hk, htk⟩ := mem_whereL.1 hj
      cases hbk : bs[k] with
      | nil => rw [hbk] at htk; simp at htk
      | cons h r =>
        have hh : headN bs (k : Int) = h.num := by unfold headN; rw [Int.toNat_natCast, List.getElem?_eq_getElem hk]; simp only [Option.getD_some, hbk]
        rw [hh]
        exact readyF_spec nx bs t h r k hk hbk H.length (H.length + 1) J g0 g1)
  unfold Tkt.cs at cl
  unfold Tkt.av at sh
  generalize hL : t :: l = tl at *
  refine WC_of_body hT Try.func30 rfl (by simp [Try.f30]) (by simp [Try.f30]) (wx_sound hT _ ?_)
  simp only [Try.f30]
  repeat' (first | simp only [go_sem, Nat.reduceLT, Nat.reduceEqDiff, Nat.reduceAdd, Nat.reduceMul, Nat.reduceSub, Nat.reduceLeDiff, Int.reduceToNat, Int.reduceNeg, Int.reduceLT, Int.reduceLE, Int.reduceEq, reduceCtorEq, Int.natCast_zero, Int.natCast_one, Int.cast_ofNat_Int, Bool.not_not, false_eq_decide, true_eq_decide, hread0, hreadk, read_cons0, read_consk, astore_h0, astore_hk, hget0, hgetk, hset0, hsetk, hlen, hcat, Nat.add_assoc, Nat.add_zero, Nat.zero_add, List.length_append, and_true, true_and, AV.flat, *, -hK, -hall, -hb2, -hl2, -hmem, -hbx, -sh, -cl, -hw, -hL] | with_reducible refine IfB_dec (fun h => ?_) (fun h => ?_) | with_reducible refine Guard_dec (fun h => ?_) (fun h => ?_) | with_reducible refine Guard_ndec (fun h => ?_) (fun h => ?_) | with_reducible refine Guard_not (fun h => ?_) (fun h => ?_) | with_reducible refine IfB_ndec (fun h => ?_) (fun h => ?_) | with_reducible refine IfB_not (fun h => ?_) (fun h => ?_) | with_reducible refine Guard_split (fun h => ?_) (fun h => ?_) | with_reducible refine IfB_split (fun h => ?_) (fun h => ?_))
  refine (sh _).mono ?_
  rintro r1 H1 ⟨rfl, rfl⟩
  repeat' (first | simp only [go_sem, Nat.reduceLT, Nat.reduceEqDiff, Nat.reduceAdd, Nat.reduceMul, Nat.reduceSub, Nat.reduceLeDiff, Int.reduceToNat, Int.reduceNeg, Int.reduceLT, Int.reduceLE, Int.reduceEq, reduceCtorEq, Int.natCast_zero, Int.natCast_one, Int.cast_ofNat_Int, Bool.not_not, false_eq_decide, true_eq_decide, hread0, hreadk, read_cons0, read_consk, astore_h0, astore_hk, hget0, hgetk, hset0, hsetk, hlen, hcat, Nat.add_assoc, Nat.add_zero, Nat.zero_add, List.length_append, and_true, true_and, AV.flat, *, -hK, -hall, -hb2, -hl2, -hmem, -hbx, -sh, -cl, -hw, -hL] | with_reducible refine IfB_dec (fun h => ?_) (fun h => ?_) | with_reducible refine Guard_dec (fun h => ?_) (fun h => ?_) | with_reducible refine Guard_ndec (fun h => ?_) (fun h => ?_) | with_reducible refine Guard_not (fun h => ?_) (fun h => ?_) | with_reducible refine IfB_ndec (fun h => ?_) (fun h => ?_) | with_reducible refine IfB_not (fun h => ?_) (fun h => ?_) | with_reducible refine Guard_split (fun h => ?_) (fun h => ?_) | with_reducible refine IfB_split (fun h => ?_) (fun h => ?_))
  refine (cl _ (by rw [hget0]; rfl) (by rw [hgetk]; rfl)).mono ?_
  rintro r1 H1 ⟨rfl, rfl⟩
  repeat' (first | simp only [go_sem, Nat.reduceLT, Nat.reduceEqDiff, Nat.reduceAdd, Nat.reduceMul, Nat.reduceSub, Nat.reduceLeDiff, Int.reduceToNat, Int.reduceNeg, Int.reduceLT, Int.reduceLE, Int.reduceEq, reduceCtorEq, Int.natCast_zero, Int.natCast_one, Int.cast_ofNat_Int, Bool.not_not, false_eq_decide, true_eq_decide, hread0, hreadk, read_cons0, read_consk, astore_h0, astore_hk, hget0, hgetk, hset0, hsetk, hlen, hcat, Nat.add_assoc, Nat.add_zero, Nat.zero_add, List.length_append, and_true, true_and, AV.flat, *, -hK, -hall, -hb2, -hl2, -hmem, -hbx, -sh, -cl, -hw, -hL] | with_reducible refine IfB_dec (fun h => ?_) (fun h => ?_) | with_reducible refine Guard_dec (fun h => ?_) (fun h => ?_) | with_reducible refine Guard_ndec (fun h => ?_) (fun h => ?_) | with_reducible refine Guard_not (fun h => ?_) (fun h => ?_) | with_reducible refine IfB_ndec (fun h => ?_) (fun h => ?_) | with_reducible refine IfB_not (fun h => ?_) (fun h => ?_) | with_reducible refine Guard_split (fun h => ?_) (fun h => ?_) | with_reducible refine IfB_split (fun h => ?_) (fun h => ?_))
  exact hK _ _ (.bool _) (Keep.app _ _ _)
end Go.Proofs.Ytkmkhiipiflelaa
