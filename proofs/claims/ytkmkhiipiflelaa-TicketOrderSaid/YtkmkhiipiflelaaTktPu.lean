import Derived.Test.YtkmkhiipiflelaaTktQ
set_option linter.unusedSimpArgs false
set_option linter.unusedVariables false
set_option maxRecDepth 100000
set_option maxHeartbeats 4000000
namespace Go.Proofs.Ytkmkhiipiflelaa
open Go Go.Proofs Go.Proofs.PI
/-! ### Put -/
def putBx (b : List (List Tkt)) (t : Tkt) (js : List Int) : List (List Tkt) := js.foldl (fun b j => b.set j.toNat (b[j.toNat]?.getD [] ++ [t])) b
theorem putBx_snoc (b : List (List Tkt)) (t : Tkt) (js : List Int) (k : Nat) : putBx b t (js ++ [(k : Int)]) = (putBx b t js).set k ((putBx b t js)[k]?.getD [] ++ [t]) := by
  unfold putBx
  rw [List.foldl_append]
  simp only [List.foldl_cons, List.foldl_nil, Int.toNat_natCast]
theorem putBx_length (b : List (List Tkt)) (t : Tkt) (js : List Int) : (putBx b t js).length = b.length := by
  unfold putBx
  induction js generalizing b with
  | nil => rfl
  | cons j js ih => rw [List.foldl_cons, ih, List.length_set]
theorem putBx_le (t : Tkt) (js : List Int) : ∀ (M : Nat) (b : List (List Tkt)), (∀ l ∈ b, l.length ≤ M) → ∀ l ∈ putBx b t js, l.length ≤ M + js.length := by
  induction js with
  | nil => exact fun M b hb l hl => hb l hl
  | cons j js ih =>
    intro M b hb l hl
    have e : putBx b t (j :: js) = putBx (b.set j.toNat (b[j.toNat]?.getD [] ++ [t])) t js := rfl
    rw [e] at hl
    have := ih (M + 1) _ (fun l hl => by
      rcases List.mem_or_eq_of_mem_set hl with hl | rfl
      · have := hb l hl; omega
      · rw [List.length_append]
        cases hg : b[j.toNat]? with
        | none => simp
        | some x => have := hb x (List.mem_of_getElem? hg); simp only [Option.getD_some, List.length_cons, List.length_nil]; omega) l hl
    rw [List.length_cons]; omega
def fullB (q : Que) (t : Tkt) : Bool := (shardsL t q.bx.length).any fun j => decide (((q.bx[j.toNat]?.getD []).length : Int) = 256)
def Tkt.at_ (t : Tkt) (n : Int) : Tkt := ⟨n, t.kind, t.cmd, t.ten, t.to⟩
def putR (q : Que) (t : Tkt) : Que × Int × Int :=
  if ¬ q.may then (que0, 0, 8) else if t.mayB = false then (que0, 0, 8) else if q.next = 1099511627776 ∨ fullB q t = true then (que0, 0, 9)
  else (⟨q.next + 1, putBx q.bx (t.at_ q.next) (shardsL t q.bx.length)⟩, q.next, 0)
theorem putF_spec (nx : Int) (bs : List (List Tkt)) (k : Nat) (hk : k < bs.length) (qb : Nat) (J : Heap) (g0 : J[qb]? = some ⟨[.int .i64 nx, boxE.lst bs], 0, .full⟩) :
    WC Try.prog 34 [.int .i64 k, .ptr qb 0] J fun r H' => r = .bool (decide ((bs[k].length : Int) = 256)) ∧ H' = J := by
  refine WC_of_K fun K hK => ?_
  have e1 := at_enc (E := boxE) (T := T) (k := .i64) se22 hk rfl
  rw [boxE_cells] at e1
  generalize bs[k] = l at *
  refine WC_of_body hT Try.func34 rfl (by simp [Try.f34]) (by simp [Try.f34]) (wx_sound hT _ ?_)
  simp only [Try.f34]
  repeat' (first | simp only [go_sem, Nat.reduceLT, Nat.reduceEqDiff, Nat.reduceAdd, Nat.reduceMul, Nat.reduceSub, Nat.reduceLeDiff, Int.reduceToNat, Int.reduceNeg, Int.reduceLT, Int.reduceLE, Int.reduceEq, reduceCtorEq, Int.natCast_zero, Int.natCast_one, Int.cast_ofNat_Int, Bool.not_not, false_eq_decide, true_eq_decide, hread0, hreadk, read_cons0, read_consk, astore_h0, astore_hk, hget0, hgetk, hset0, hsetk, hlen, hcat, Nat.add_assoc, Nat.add_zero, Nat.zero_add, List.length_append, and_true, true_and, AV.flat, g0, get_app g0, read_get g0, read_app g0, *, -hK] | with_reducible refine IfB_dec (fun h => ?_) (fun h => ?_) | with_reducible refine Guard_dec (fun h => ?_) (fun h => ?_) | with_reducible refine Guard_ndec (fun h => ?_) (fun h => ?_) | with_reducible refine Guard_not (fun h => ?_) (fun h => ?_) | with_reducible refine IfB_ndec (fun h => ?_) (fun h => ?_) | with_reducible refine IfB_not (fun h => ?_) (fun h => ?_) | with_reducible refine Guard_split (fun h => ?_) (fun h => ?_) | with_reducible refine IfB_split (fun h => ?_) (fun h => ?_))
  exact hK _ _ ⟨rfl, rfl⟩
theorem put_spec (q : Que) (t : Tkt) (hb : qFit q.bx) (hn : t.cmd.keys.length ≤ 1000) (hks : ∀ k ∈ t.cmd.keys, k.length ≤ 100000) (H : Heap) :
    WC Try.prog 11 [q.av, t.av] H fun r H' => r = .tup [(putR q t).1.av, .int .i64 (putR q t).2.1, .int .i64 (putR q t).2.2] ∧ H' = H := by
  refine WC_val fun K hK => ?_
  have ck := fun J => tcheck_spec q hb J
  have my := fun J => tmay_spec t hn J
  by_cases hq : q.may
  rotate_left
  · rw [queE_bad hq] at ck
    rw [show putR q t = (que0, 0, 8) by unfold putR; rw [if_pos hq]] at hK
    unfold Que.av Tkt.av at *
    refine WC_of_body hT Try.func11 rfl (by simp [Try.f11]) (by simp [Try.f11]) (wx_sound hT _ ?_)
    simp only [Try.f11]
    repeat' (first | simp only [go_sem, Nat.reduceLT, Nat.reduceEqDiff, Nat.reduceAdd, Nat.reduceMul, Nat.reduceSub, Nat.reduceLeDiff, Int.reduceToNat, Int.reduceNeg, Int.reduceLT, Int.reduceLE, Int.reduceEq, reduceCtorEq, Int.natCast_zero, Int.natCast_one, Int.cast_ofNat_Int, Bool.not_not, false_eq_decide, true_eq_decide, hread0, hreadk, read_cons0, read_consk, astore_h0, astore_hk, hget0, hgetk, hset0, hsetk, hlen, hcat, Nat.add_assoc, Nat.add_zero, Nat.zero_add, List.length_append, and_true, true_and, AV.flat, *, -hK, -ck, -my, -hq, -hb, -hks] | refine WC.call (ck _) ?_ | with_reducible refine IfB_dec (fun h => ?_) (fun h => ?_) | with_reducible refine Guard_dec (fun h => ?_) (fun h => ?_) | with_reducible refine Guard_ndec (fun h => ?_) (fun h => ?_) | with_reducible refine Guard_not (fun h => ?_) (fun h => ?_) | with_reducible refine IfB_ndec (fun h => ?_) (fun h => ?_) | with_reducible refine IfB_not (fun h => ?_) (fun h => ?_) | with_reducible refine Guard_split (fun h => ?_) (fun h => ?_) | with_reducible refine IfB_split (fun h => ?_) (fun h => ?_))
    refine hK _ _ ?_ (Keep.app _ _ _)
    exact Thaw.tup_row ⟨Thaw.agg_row ⟨.int _ _, .nils, trivial⟩, .int _ _, .int _ _, trivial⟩
  rw [queE_ok hq] at ck
  cases hm : t.mayB with
  | false =>
    rw [hm] at my
    rw [show putR q t = (que0, 0, 8) by unfold putR; rw [if_neg (not_not_intro hq), if_pos hm]] at hK
    unfold Que.av Tkt.av at *
    refine WC_of_body hT Try.func11 rfl (by simp [Try.f11]) (by simp [Try.f11]) (wx_sound hT _ ?_)
    simp only [Try.f11]
    repeat' (first | simp only [go_sem, Nat.reduceLT, Nat.reduceEqDiff, Nat.reduceAdd, Nat.reduceMul, Nat.reduceSub, Nat.reduceLeDiff, Int.reduceToNat, Int.reduceNeg, Int.reduceLT, Int.reduceLE, Int.reduceEq, reduceCtorEq, Int.natCast_zero, Int.natCast_one, Int.cast_ofNat_Int, Bool.not_not, false_eq_decide, true_eq_decide, hread0, hreadk, read_cons0, read_consk, astore_h0, astore_hk, hget0, hgetk, hset0, hsetk, hlen, hcat, Nat.add_assoc, Nat.add_zero, Nat.zero_add, List.length_append, and_true, true_and, AV.flat, *, -hK, -ck, -my, -hq, -hb, -hks, -hm] | refine WC.call (ck _) ?_ | refine WC.call (my _) ?_ | with_reducible refine IfB_dec (fun h => ?_) (fun h => ?_) | with_reducible refine Guard_dec (fun h => ?_) (fun h => ?_) | with_reducible refine Guard_ndec (fun h => ?_) (fun h => ?_) | with_reducible refine Guard_not (fun h => ?_) (fun h => ?_) | with_reducible refine IfB_ndec (fun h => ?_) (fun h => ?_) | with_reducible refine IfB_not (fun h => ?_) (fun h => ?_) | with_reducible refine Guard_split (fun h => ?_) (fun h => ?_) | with_reducible refine IfB_split (fun h => ?_) (fun h => ?_))
    refine hK _ _ ?_ (Keep.app _ _ _)
    exact Thaw.tup_row ⟨Thaw.agg_row ⟨.int _ _, .nils, trivial⟩, .int _ _, .int _ _, trivial⟩
  | true =>
  rw [hm] at my
  have hpu : putR q t = if q.next = 1099511627776 ∨ fullB q t = true then (que0, 0, 9) else (⟨q.next + 1, putBx q.bx (t.at_ q.next) (shardsL t q.bx.length)⟩, q.next, 0) := by
    unfold putR; rw [if_neg (not_not_intro hq), if_neg (by rw [hm]; decide)]
  rw [hpu] at hK
  clear hpu
  have sh := fun J => tshards_spec t q.bx.length hq.2.1 hn hks J
  have tw := fun J => twin_own q hb.1 hb J
  have hl4 := hq.2.1
  have hnx := hq.2.2.1
  have hnm := hq.2.2.2.1
  have hall : ∀ l ∈ q.bx, l.length ≤ 256 := fun l hl => (hq.2.2.2.2 l hl).1
  have hsl := shardsL_len t q.bx.length
  obtain ⟨nx, bs⟩ := q
  simp only at hl4 hnx hnm hall hK sh hsl
  have cl := fun (J : Heap) (g0 : J[H.length]? = some ⟨[.int .i64 nx, boxE.lst bs], 0, .full⟩) =>
    iHasF_spec (shardsL t bs.length) 34 [.ptr H.length 0] (fun j => decide (((bs[j.toNat]?.getD []).length : Int) = 256)) (by omega) J (fun j hj => by
      obtain ⟨k, rfl, hk⟩ := shardsL_lt hj
      have hh : (bs[(k : Int).toNat]?.getD []) = bs[k] := by rw [Int.toNat_natCast, List.getElem?_eq_getElem hk]; rfl
      rw [hh]
      exact putF_spec nx bs k hk H.length J g0)
  rw [show ((shardsL t bs.length).any fun j => decide (((bs[j.toNat]?.getD []).length : Int) = 256)) = fullB ⟨nx, bs⟩ t from rfl] at cl
  have hlt := fun j (hj : j ∈ shardsL t bs.length) => shardsL_lt hj
  have hple := fun js => putBx_le (t.at_ nx) js 256 bs hall
  have hplen := fun js => putBx_length bs (t.at_ nx) js
  have hpst := fun js k => putBx_snoc bs (t.at_ nx) js k
  have hp0 : putBx bs (t.at_ nx) [] = bs := rfl
  clear hall hq
  generalize putBx bs (t.at_ nx) = pb at *
  generalize fullB ⟨nx, bs⟩ t = fb at *
  generalize shardsL t bs.length = js at *
  clear hm
  unfold Que.av Tkt.av at *
  simp only at ck tw
  by_cases i1 : nx = 1099511627776
  · subst i1
    rw [if_pos (.inl rfl)] at hK
    simp only at hK
    refine WC_of_body hT Try.func11 rfl (by simp [Try.f11]) (by simp [Try.f11]) (wx_sound hT _ ?_)
    simp only [Try.f11]
    repeat' (first | simp only [go_sem, Nat.reduceLT, Nat.reduceEqDiff, Nat.reduceAdd, Nat.reduceMul, Nat.reduceSub, Nat.reduceLeDiff, Int.reduceToNat, Int.reduceNeg, Int.reduceLT, Int.reduceLE, Int.reduceEq, reduceCtorEq, Int.natCast_zero, Int.natCast_one, Int.cast_ofNat_Int, Bool.not_not, false_eq_decide, true_eq_decide, hread0, hreadk, read_cons0, read_consk, astore_h0, astore_hk, hget0, hgetk, hset0, hsetk, hlen, hcat, Nat.add_assoc, Nat.add_zero, Nat.zero_add, List.length_append, and_true, true_and, AV.flat, *, -hK, -ck, -my, -hb, -hks, -sh, -cl, -tw, -hlt, -hple, -hplen, -hpst, -hp0] | refine WC.call (ck _) ?_ | refine WC.call (my _) ?_ | refine WC.call (sh _) ?_ | with_reducible refine IfB_dec (fun h => ?_) (fun h => ?_) | with_reducible refine Guard_dec (fun h => ?_) (fun h => ?_) | with_reducible refine Guard_ndec (fun h => ?_) (fun h => ?_) | with_reducible refine Guard_not (fun h => ?_) (fun h => ?_) | with_reducible refine IfB_ndec (fun h => ?_) (fun h => ?_) | with_reducible refine IfB_not (fun h => ?_) (fun h => ?_) | with_reducible refine Guard_split (fun h => ?_) (fun h => ?_) | with_reducible refine IfB_split (fun h => ?_) (fun h => ?_))
    refine hK _ _ ?_ (Keep.app _ _ _)
    exact Thaw.tup_row ⟨Thaw.agg_row ⟨.int _ _, .nils, trivial⟩, .int _ _, .int _ _, trivial⟩
  cases fb with
  | true =>
    rw [if_pos (.inr rfl)] at hK
    simp only at hK
    refine WC_of_body hT Try.func11 rfl (by simp [Try.f11]) (by simp [Try.f11]) (wx_sound hT _ ?_)
    simp only [Try.f11]
    repeat' (first | simp only [go_sem, Nat.reduceLT, Nat.reduceEqDiff, Nat.reduceAdd, Nat.reduceMul, Nat.reduceSub, Nat.reduceLeDiff, Int.reduceToNat, Int.reduceNeg, Int.reduceLT, Int.reduceLE, Int.reduceEq, reduceCtorEq, Int.natCast_zero, Int.natCast_one, Int.cast_ofNat_Int, Bool.not_not, false_eq_decide, true_eq_decide, hread0, hreadk, read_cons0, read_consk, astore_h0, astore_hk, hget0, hgetk, hset0, hsetk, hlen, hcat, Nat.add_assoc, Nat.add_zero, Nat.zero_add, List.length_append, and_true, true_and, AV.flat, *, -hK, -ck, -my, -hb, -hks, -sh, -cl, -tw, -hlt, -hple, -hplen, -hpst, -hp0] | refine WC.call (ck _) ?_ | refine WC.call (my _) ?_ | refine WC.call (sh _) ?_ | with_reducible refine IfB_dec (fun h => ?_) (fun h => ?_) | with_reducible refine Guard_dec (fun h => ?_) (fun h => ?_) | with_reducible refine Guard_ndec (fun h => ?_) (fun h => ?_) | with_reducible refine Guard_not (fun h => ?_) (fun h => ?_) | with_reducible refine IfB_ndec (fun h => ?_) (fun h => ?_) | with_reducible refine IfB_not (fun h => ?_) (fun h => ?_) | with_reducible refine Guard_split (fun h => ?_) (fun h => ?_) | with_reducible refine IfB_split (fun h => ?_) (fun h => ?_))
    refine (cl _ (by rw [hget0]; rfl)).mono ?_
    rintro _ _ ⟨rfl, rfl⟩
    repeat' (first | simp only [go_sem, Nat.reduceLT, Nat.reduceEqDiff, Nat.reduceAdd, Nat.reduceMul, Nat.reduceSub, Nat.reduceLeDiff, Int.reduceToNat, Int.reduceNeg, Int.reduceLT, Int.reduceLE, Int.reduceEq, reduceCtorEq, Int.natCast_zero, Int.natCast_one, Int.cast_ofNat_Int, Bool.not_not, false_eq_decide, true_eq_decide, hread0, hreadk, read_cons0, read_consk, astore_h0, astore_hk, hget0, hgetk, hset0, hsetk, hlen, hcat, Nat.add_assoc, Nat.add_zero, Nat.zero_add, List.length_append, and_true, true_and, AV.flat, *, -hK, -ck, -my, -hb, -hks, -sh, -cl, -tw, -hlt, -hple, -hplen, -hpst, -hp0] | with_reducible refine IfB_dec (fun h => ?_) (fun h => ?_) | with_reducible refine Guard_dec (fun h => ?_) (fun h => ?_) | with_reducible refine Guard_ndec (fun h => ?_) (fun h => ?_) | with_reducible refine Guard_not (fun h => ?_) (fun h => ?_) | with_reducible refine IfB_ndec (fun h => ?_) (fun h => ?_) | with_reducible refine IfB_not (fun h => ?_) (fun h => ?_) | with_reducible refine Guard_split (fun h => ?_) (fun h => ?_) | with_reducible refine IfB_split (fun h => ?_) (fun h => ?_))
    refine hK _ _ ?_ (Keep.app _ _ _)
    exact Thaw.tup_row ⟨Thaw.agg_row ⟨.int _ _, .nils, trivial⟩, .int _ _, .int _ _, trivial⟩
  | false =>
  rw [if_neg (by simp [i1])] at hK
  simp only at hK
  refine WC_of_body hT Try.func11 rfl (by simp [Try.f11]) (by simp [Try.f11]) (wx_sound hT _ ?_)
  simp only [Try.f11]
  repeat' (first | simp only [go_sem, Nat.reduceLT, Nat.reduceEqDiff, Nat.reduceAdd, Nat.reduceMul, Nat.reduceSub, Nat.reduceLeDiff, Int.reduceToNat, Int.reduceNeg, Int.reduceLT, Int.reduceLE, Int.reduceEq, reduceCtorEq, Int.natCast_zero, Int.natCast_one, Int.cast_ofNat_Int, Bool.not_not, false_eq_decide, true_eq_decide, hread0, hreadk, read_cons0, read_consk, astore_h0, astore_hk, hget0, hgetk, hset0, hsetk, hlen, hcat, Nat.add_assoc, Nat.add_zero, Nat.zero_add, List.length_append, and_true, true_and, AV.flat, *, -hK, -ck, -my, -hb, -hks, -sh, -cl, -tw, -hlt, -hple, -hplen, -hpst, -hp0] | refine WC.call (ck _) ?_ | refine WC.call (my _) ?_ | refine WC.call (sh _) ?_ | with_reducible refine IfB_dec (fun h => ?_) (fun h => ?_) | with_reducible refine Guard_dec (fun h => ?_) (fun h => ?_) | with_reducible refine Guard_ndec (fun h => ?_) (fun h => ?_) | with_reducible refine Guard_not (fun h => ?_) (fun h => ?_) | with_reducible refine IfB_ndec (fun h => ?_) (fun h => ?_) | with_reducible refine IfB_not (fun h => ?_) (fun h => ?_) | with_reducible refine Guard_split (fun h => ?_) (fun h => ?_) | with_reducible refine IfB_split (fun h => ?_) (fun h => ?_))
  refine (cl _ (by rw [hget0]; rfl)).mono ?_
  rintro _ _ ⟨rfl, rfl⟩
  clear ck my sh cl
  repeat' (first | simp only [go_sem, Nat.reduceLT, Nat.reduceEqDiff, Nat.reduceAdd, Nat.reduceMul, Nat.reduceSub, Nat.reduceLeDiff, Int.reduceToNat, Int.reduceNeg, Int.reduceLT, Int.reduceLE, Int.reduceEq, reduceCtorEq, Int.natCast_zero, Int.natCast_one, Int.cast_ofNat_Int, Bool.not_not, false_eq_decide, true_eq_decide, hread0, hreadk, read_cons0, read_consk, astore_h0, astore_hk, hget0, hgetk, hset0, hsetk, hlen, hcat, Nat.add_assoc, Nat.add_zero, Nat.zero_add, List.length_append, and_true, true_and, AV.flat, *, -hK, -hb, -hks, -tw, -hlt, -hple, -hplen, -hpst, -hp0] | with_reducible refine IfB_dec (fun h => ?_) (fun h => ?_) | with_reducible refine Guard_dec (fun h => ?_) (fun h => ?_) | with_reducible refine Guard_ndec (fun h => ?_) (fun h => ?_) | with_reducible refine Guard_not (fun h => ?_) (fun h => ?_) | with_reducible refine IfB_ndec (fun h => ?_) (fun h => ?_) | with_reducible refine IfB_not (fun h => ?_) (fun h => ?_) | with_reducible refine Guard_split (fun h => ?_) (fun h => ?_) | with_reducible refine IfB_split (fun h => ?_) (fun h => ?_))
  refine (tw _).mono ?_
  rintro _ H1 ⟨⟨p, ps, rfl, W⟩, kH⟩
  clear tw
  simp only [List.length_append, List.length_cons, List.length_nil, Nat.zero_add, Nat.reduceAdd] at W
  have hH1 : H.length + 3 ≤ H1.length := by have := kH.len; simpa using this
  have y0 : H1[H.length]? = some (⟨[.int .i64 nx, boxE.lst bs], 0, .full⟩ : Blk) := kH.get (by rw [hget0]; rfl) (by simp)
  have y1 : H1[H.length + 1]? = some (⟨[.int .i64 t.num, .int .u8 t.kind, .int .u8 t.cmd.kind, .int .i64 t.cmd.ten, Enc.str.lst t.cmd.keys, .str t.cmd.val, .int .u32 t.cmd.flags, .int .i64 t.cmd.for_, .int .u64 t.cmd.uniq, .int .u64 t.cmd.by_, .int .i64 t.ten, .int .i64 t.to], 0, .full⟩ : Blk) := kH.get (by rw [hgetk]; rfl) (by simp)
  have y2 : H1[H.length + 2]? = some (⟨[.int .i64 0, .nils], 0, .full⟩ : Blk) := kH.get (by rw [hgetk]; rfl) (by simp)
  have z0 := get_app y0 [(⟨[.int .i64 nx, .sl p 0 bs.length none], 0, .full⟩ : Blk)]
  have z1 := get_app y1 [(⟨[.int .i64 nx, .sl p 0 bs.length none], 0, .full⟩ : Blk)]
  repeat' (first | simp only [go_sem, Nat.reduceLT, Nat.reduceEqDiff, Nat.reduceAdd, Nat.reduceMul, Nat.reduceSub, Nat.reduceLeDiff, Int.reduceToNat, Int.reduceNeg, Int.reduceLT, Int.reduceLE, Int.reduceEq, reduceCtorEq, Int.natCast_zero, Int.natCast_one, Int.cast_ofNat_Int, Bool.not_not, false_eq_decide, true_eq_decide, hread0, hreadk, read_cons0, read_consk, astore_h0, astore_hk, hget0, hgetk, hset0, hsetk, hlen, hcat, Nat.add_assoc, Nat.add_zero, Nat.zero_add, List.length_append, and_true, true_and, AV.flat, z0, get_app z0, read_get z0, read_app z0, z1, get_app z1, read_get z1, read_app z1, astore_get z1, astore_app z1, get_set z1, get_set_app z1, read_set z1, read_set_app z1, astore_set z1, astore_set_app z1, List.set_set, hget0s, hgetks, hread0s, hreadks, List.length_set, *, -hK, -hb, -hks, -hlt, -hple, -hplen, -hpst, -hp0, -W, -kH, -hH1, -y0, -y1, -y2] | with_reducible refine IfB_dec (fun h => ?_) (fun h => ?_) | with_reducible refine Guard_dec (fun h => ?_) (fun h => ?_) | with_reducible refine Guard_ndec (fun h => ?_) (fun h => ?_) | with_reducible refine Guard_not (fun h => ?_) (fun h => ?_) | with_reducible refine IfB_ndec (fun h => ?_) (fun h => ?_) | with_reducible refine IfB_not (fun h => ?_) (fun h => ?_) | with_reducible refine Guard_split (fun h => ?_) (fun h => ?_) | with_reducible refine IfB_split (fun h => ?_) (fun h => ?_))
  have hpl := W.lt
  have hpg := W.ge
  have hpsl : ∀ (j : Nat) (x : AV), ps[j]? = some x → x.blk ≠ some H1.length := fun j x hx e => by have := (W.lts hx e).2.1; omega
  generalize hG : (List.set (H1 ++ [(⟨[.int .i64 nx, .sl p 0 bs.length none], 0, .full⟩ : Blk)]) (H.length + 1) ⟨[.int .i64 nx, .int .u8 t.kind, .int .u8 t.cmd.kind, .int .i64 t.cmd.ten, Enc.str.lst t.cmd.keys, .str t.cmd.val, .int .u32 t.cmd.flags, .int .i64 t.cmd.for_, .int .u64 t.cmd.uniq, .int .u64 t.cmd.by_, .int .i64 t.ten, .int .i64 t.to], 0, .full⟩ : Heap) = G
  have x1 : G[H.length + 1]? = some (⟨[.int .i64 nx, .int .u8 t.kind, .int .u8 t.cmd.kind, .int .i64 t.cmd.ten, Enc.str.lst t.cmd.keys, .str t.cmd.val, .int .u32 t.cmd.flags, .int .i64 t.cmd.for_, .int .u64 t.cmd.uniq, .int .u64 t.cmd.by_, .int .i64 t.ten, .int .i64 t.to], 0, .full⟩ : Blk) := by rw [← hG, List.getElem?_set_self (by simp; omega)]
  have x2 : G[H.length + 2]? = some (⟨[.int .i64 0, .nils], 0, .full⟩ : Blk) := by rw [← hG, List.getElem?_set_ne (by omega)]; exact get_app y2 _
  have x3 : G[H1.length]? = some (⟨[.int .i64 nx, .sl p 0 bs.length none], 0, .full⟩ : Blk) := by rw [← hG, List.getElem?_set_ne (by omega)]; simp
  have kG : Keep none H G := ⟨by rw [← hG]; simp; omega, fun b hb _ => by rw [← hG, List.getElem?_set_ne (by omega), List.getElem?_append_left (by omega), kH.at_ b (by simp; omega) (by simp)]; simp [List.getElem?_append_left hb]⟩
  have WG : BxO (H.length + 3) G p ps bs := (W.keep (Keep.app none H1 [(⟨[.int .i64 nx, .sl p 0 bs.length none], 0, .full⟩ : Blk)])).low fun b h1 h2 => by rw [← hG, List.getElem?_set_ne (by omega)]
  generalize H1.length = ob at *
  clear hG y0 y1 y2 z0 z1 kH W hH1
  rw [← hp0] at WG
  refine WX_loopS [3, 4, 9, 41, 42] (fun k fr' J => ∃ (i : Nat) (qs : List AV), k = js.length - i ∧ i ≤ js.length ∧ fr'.get 43 = .int .i64 i ∧ Keep none H J ∧ J[H.length + 1]? = some (⟨[.int .i64 nx, .int .u8 t.kind, .int .u8 t.cmd.kind, .int .i64 t.cmd.ten, Enc.str.lst t.cmd.keys, .str t.cmd.val, .int .u32 t.cmd.flags, .int .i64 t.cmd.for_, .int .u64 t.cmd.uniq, .int .u64 t.cmd.by_, .int .i64 t.ten, .int .i64 t.to], 0, .full⟩ : Blk) ∧ J[H.length + 2]? = some (⟨[.int .i64 0, .nils], 0, .full⟩ : Blk) ∧ J[ob]? = some (⟨[.int .i64 nx, .sl p 0 bs.length none], 0, .full⟩ : Blk) ∧ BxO (H.length + 3) J p qs (pb (js.take i)) ∧ ∀ (j : Nat) (x : AV), qs[j]? = some x → x.blk ≠ some ob) js.length ⟨0, ps, rfl, by omega, by simp only [go_sem, Nat.reduceLT, Nat.reduceEqDiff, Nat.reduceAdd, Nat.reduceMul, Nat.reduceSub, Nat.reduceLeDiff, Int.reduceToNat, Int.reduceNeg, Int.reduceLT, Int.reduceLE, Int.reduceEq, reduceCtorEq]; rfl, kG, x1, x2, x3, WG, hpsl⟩ ?_
  clear WG x1 x2 x3 kG hpsl
  rintro k fr' J A R hA hs hg hR ⟨i, qs, rfl, hi, f43, kJ, g1, g2, g3, W, hps⟩
  have s3 := hg 3 (by decide)
  have s4 := hg 4 (by decide)
  have s9 := hg 9 (by decide)
  have s41 := hg 41 (by decide)
  have s42 := hg 42 (by decide)
  simp only [Fr.get_put, Fr.get_init, List.getD_cons_zero, List.getD_cons_succ, Nat.reduceEqDiff, if_true, if_false] at s3 s4 s9 s41 s42
  refine wx_sound hT _ ?_
  by_cases hli : i < js.length
  rotate_left
  · have i5 : ¬ (i : Int) < js.length := by omega
    have hie : i = js.length := by omega
    rw [hie, List.take_length] at W
    have hJl := (List.getElem?_eq_some_iff.1 g3).1
    have w1 : IntKind.i64.wrap (nx + 1) = nx + 1 := by rw [IntKind.wrap_i64]; omega
    repeat' (first | simp only [go_sem, Nat.reduceLT, Nat.reduceEqDiff, Nat.reduceAdd, Nat.reduceMul, Nat.reduceSub, Nat.reduceLeDiff, Int.reduceToNat, Int.reduceNeg, Int.reduceLT, Int.reduceLE, Int.reduceEq, reduceCtorEq, Int.natCast_zero, Int.natCast_one, Int.cast_ofNat_Int, Bool.not_not, false_eq_decide, true_eq_decide, hread0, hreadk, read_cons0, read_consk, astore_h0, astore_hk, hget0, hgetk, hset0, hsetk, hlen, hcat, Nat.add_assoc, Nat.add_zero, Nat.zero_add, List.length_append, and_true, true_and, AV.flat, g1, get_app g1, read_get g1, read_app g1, g3, get_app g3, read_get g3, read_app g3, astore_get g3, astore_app g3, get_set g3, get_set_app g3, read_set g3, read_set_app g3, astore_set g3, astore_set_app g3, List.set_set, hget0s, hgetks, hread0s, hreadks, List.length_set, *, -hK, -hb, -W, -kJ, -g2, -hps, -hli, -hie, -hlt, -hple, -hplen, -hpst, -hp0, -hJl, -hks] | with_reducible refine IfB_dec (fun h => ?_) (fun h => ?_) | with_reducible refine Guard_dec (fun h => ?_) (fun h => ?_) | with_reducible refine Guard_ndec (fun h => ?_) (fun h => ?_) | with_reducible refine Guard_not (fun h => ?_) (fun h => ?_) | with_reducible refine IfB_ndec (fun h => ?_) (fun h => ?_) | with_reducible refine IfB_not (fun h => ?_) (fun h => ?_) | with_reducible refine Guard_split (fun h => ?_) (fun h => ?_) | with_reducible refine IfB_split (fun h => ?_) (fun h => ?_))
    have u1 : (List.set J ob ⟨[.int .i64 (nx + 1), .sl p 0 bs.length none], 0, .full⟩)[H.length + 1]? = some (⟨[.int .i64 nx, .int .u8 t.kind, .int .u8 t.cmd.kind, .int .i64 t.cmd.ten, Enc.str.lst t.cmd.keys, .str t.cmd.val, .int .u32 t.cmd.flags, .int .i64 t.cmd.for_, .int .u64 t.cmd.uniq, .int .u64 t.cmd.by_, .int .i64 t.ten, .int .i64 t.to], 0, .full⟩ : Blk) := by rw [List.getElem?_set_ne (by omega)]; exact g1
    have u2 : (List.set J ob ⟨[.int .i64 (nx + 1), .sl p 0 bs.length none], 0, .full⟩)[H.length + 2]? = some (⟨[.int .i64 0, .nils], 0, .full⟩ : Blk) := by rw [List.getElem?_set_ne (by omega)]; exact g2
    have u3 : (List.set J ob ⟨[.int .i64 (nx + 1), .sl p 0 bs.length none], 0, .full⟩)[ob]? = some (⟨[.int .i64 (nx + 1), .sl p 0 bs.length none], 0, .full⟩ : Blk) := List.getElem?_set_self hJl
    have u5 : ((List.set J ob ⟨[.int .i64 (nx + 1), .sl p 0 bs.length none], 0, .full⟩).set (H.length + 2) ⟨[.int .i64 (nx + 1), .sl p 0 bs.length none], 0, .full⟩)[H.length + 1]? = some (⟨[.int .i64 nx, .int .u8 t.kind, .int .u8 t.cmd.kind, .int .i64 t.cmd.ten, Enc.str.lst t.cmd.keys, .str t.cmd.val, .int .u32 t.cmd.flags, .int .i64 t.cmd.for_, .int .u64 t.cmd.uniq, .int .u64 t.cmd.by_, .int .i64 t.ten, .int .i64 t.to], 0, .full⟩ : Blk) := by rw [List.getElem?_set_ne (by omega)]; exact u1
    refine WX_rows hT hmix [(0, none), (1, none), (2, none), (3, some [false, false, true]), (4, none), (5, none)] (by kernel_rfl) ?_
    repeat' (first | simp only [go_sem, Nat.reduceLT, Nat.reduceEqDiff, Nat.reduceAdd, Nat.reduceMul, Nat.reduceSub, Nat.reduceLeDiff, Int.reduceToNat, Int.reduceNeg, Int.reduceLT, Int.reduceLE, Int.reduceEq, reduceCtorEq, Int.natCast_zero, Int.natCast_one, Int.cast_ofNat_Int, Bool.not_not, false_eq_decide, true_eq_decide, hread0, hreadk, read_cons0, read_consk, astore_h0, astore_hk, hget0, hgetk, hset0, hsetk, hlen, hcat, Nat.add_assoc, Nat.add_zero, Nat.zero_add, List.length_append, and_true, true_and, AV.flat, u1, get_app u1, read_get u1, read_app u1, u5, get_app u5, read_get u5, read_app u5, u3, get_app u3, read_get u3, read_app u3, u2, get_app u2, read_get u2, read_app u2, astore_get u2, astore_app u2, get_set u2, get_set_app u2, read_set u2, read_set_app u2, astore_set u2, astore_set_app u2, List.set_set, hget0s, hgetks, hread0s, hreadks, List.length_set, *, -hK, -hb, -W, -kJ, -g1, -g2, -g3, -hps, -hli, -hie, -hlt, -hple, -hplen, -hpst, -hp0, -hJl, -hks] | with_reducible refine IfB_dec (fun h => ?_) (fun h => ?_) | with_reducible refine Guard_dec (fun h => ?_) (fun h => ?_) | with_reducible refine Guard_ndec (fun h => ?_) (fun h => ?_) | with_reducible refine Guard_not (fun h => ?_) (fun h => ?_) | with_reducible refine IfB_ndec (fun h => ?_) (fun h => ?_) | with_reducible refine IfB_not (fun h => ?_) (fun h => ?_) | with_reducible refine Guard_split (fun h => ?_) (fun h => ?_) | with_reducible refine IfB_split (fun h => ?_) (fun h => ?_))
    have W2 := (W.other (G := List.set (List.set J ob ⟨[.int .i64 (nx + 1), .sl p 0 bs.length none], 0, .full⟩) (H.length + 2) ⟨[.int .i64 (nx + 1), .sl p 0 bs.length none], 0, .full⟩) fun b hb2 => by
      rcases hb2 with rfl | ⟨j, x, hx, hbx⟩
      · rw [List.getElem?_set_ne (by omega), List.getElem?_set_ne (by omega)]
      · have := (W.lts hx hbx).1
        have h2 : b ≠ ob := fun e => hps j x hx (by rw [hbx, e])
        rw [List.getElem?_set_ne (by omega), List.getElem?_set_ne (fun e => h2 e.symm)]).mono (m2 := H.length) (by omega)
    have th := W2.thaw
    rw [hplen] at th
    refine hK _ _ ?_ ?_
    · exact Thaw.tup_row ⟨Thaw.agg_row ⟨.int _ _, th, trivial⟩, .int _ _, .int _ _, trivial⟩
    exact ⟨by rw [List.length_set, List.length_set]; exact kJ.len, fun b hb2 _ => by rw [List.getElem?_set_ne (by omega), List.getElem?_set_ne (by omega)]; exact kJ.at_ b hb2 (by simp)⟩
  have i5 : (i : Int) < js.length := by omega
  have e7 := inc_id hli (by omega)
  have e8 := at_enc (E := Enc.int .i64) (T := T) (k := .i64) se27 hli rfl
  rw [int_cells] at e8
  obtain ⟨kk, hkk, hkl⟩ := hlt _ (List.getElem_mem hli)
  have hpl1 : kk < (pb (js.take i)).length := by rw [hplen]; exact hkl
  obtain ⟨x, hx, hgx, ow, hxp⟩ := W.get (i := kk) hpl1
  have hbl := hple _ _ (List.getElem_mem hpl1)
  rw [List.length_take] at hbl
  have hst : pb (js.take (i + 1)) = (pb (js.take i)).set kk ((pb (js.take i))[kk] ++ [t.at_ nx]) := by
    rw [List.take_succ_eq_append_getElem hli, hkk, hpst, List.getElem?_eq_getElem hpl1]; rfl
  have hpls := hplen (js.take i)
  have back2 : ∀ fr2 J3 qs2, A fr2 → fr2.get 43 = .int .i64 ((i + 1 : Nat) : Int) → Keep none H J3 → J3[H.length + 1]? = some (⟨[.int .i64 nx, .int .u8 t.kind, .int .u8 t.cmd.kind, .int .i64 t.cmd.ten, Enc.str.lst t.cmd.keys, .str t.cmd.val, .int .u32 t.cmd.flags, .int .i64 t.cmd.for_, .int .u64 t.cmd.uniq, .int .u64 t.cmd.by_, .int .i64 t.ten, .int .i64 t.to], 0, .full⟩ : Blk) → J3[H.length + 2]? = some (⟨[.int .i64 0, .nils], 0, .full⟩ : Blk) → J3[ob]? = some (⟨[.int .i64 nx, .sl p 0 bs.length none], 0, .full⟩ : Blk) → BxO (H.length + 3) J3 p qs2 ((pb (js.take i)).set kk ((pb (js.take i))[kk] ++ [t.at_ nx])) → (∀ (j : Nat) (x : AV), qs2[j]? = some x → x.blk ≠ some ob) → R fr2 J3 := fun fr2 J3 qs2 ha j1 j2 j3 j4 j5 j6 j7 => hR fr2 J3 ha (js.length - (i + 1)) (by omega) ⟨i + 1, qs2, rfl, by omega, j1, j2, j3, j4, j5, by rw [hst]; exact j6, j7⟩
  rw [hkk] at e8
  have c1 := fun J => one_spec (t.at_ nx) (by show t.cmd.keys.length ≤ _; omega) J
  have ad := BxO.addr (p := p) (T' := T) se22 hkl
  clear hR hst hp0 hpst hplen hple hlt hkk
  generalize (pb (js.take i))[kk] = ll at *
  generalize pb (js.take i) = G at *
  unfold Tkt.av Tkt.at_ at c1
  simp only at c1
  have hxo := ow.one
  have hJl := (List.getElem?_eq_some_iff.1 g3).1
  have hJ2 := (List.getElem?_eq_some_iff.1 g2).1
  have rd := W.read hx
  repeat' (first | simp only [go_sem, Nat.reduceLT, Nat.reduceEqDiff, Nat.reduceAdd, Nat.reduceMul, Nat.reduceSub, Nat.reduceLeDiff, Int.reduceToNat, Int.reduceNeg, Int.reduceLT, Int.reduceLE, Int.reduceEq, reduceCtorEq, Int.natCast_zero, Int.natCast_one, Int.cast_ofNat_Int, Bool.not_not, false_eq_decide, true_eq_decide, hread0, hreadk, read_cons0, read_consk, astore_h0, astore_hk, hget0, hgetk, hset0, hsetk, hlen, hcat, Nat.add_assoc, Nat.add_zero, Nat.zero_add, List.length_append, and_true, true_and, AV.flat, g1, get_app g1, read_get g1, read_app g1, g3, get_app g3, read_get g3, read_app g3, hxo, one_solid hxo, one_cells hxo, *, -hK, -hb, -W, -kJ, -g1, -g2, -g3, -hps, -back2, -hx, -hgx, -ow, -hxp, -c1, -hJl, -hJ2, -hpl1, -hpls, -hbl, -hks] | with_reducible refine IfB_dec (fun h => ?_) (fun h => ?_) | with_reducible refine Guard_dec (fun h => ?_) (fun h => ?_) | with_reducible refine Guard_ndec (fun h => ?_) (fun h => ?_) | with_reducible refine Guard_not (fun h => ?_) (fun h => ?_) | with_reducible refine IfB_ndec (fun h => ?_) (fun h => ?_) | with_reducible refine IfB_not (fun h => ?_) (fun h => ?_) | with_reducible refine Guard_split (fun h => ?_) (fun h => ?_) | with_reducible refine IfB_split (fun h => ?_) (fun h => ?_))
  refine WX_rows hT hmix [(0, none), (1, none), (2, none), (3, none), (4, none), (5, none), (6, none), (7, none), (8, none), (9, some [true, false, false, false, false, false, false, false, false]), (10, none), (11, some [true, true, true, true, true, true, true, true, false, false, false]), (12, none), (13, some [true, true, true, true, true, true, true, true, true, true, true, true, true])] (by kernel_rfl) ?_
  repeat' (first | simp only [go_sem, Nat.reduceLT, Nat.reduceEqDiff, Nat.reduceAdd, Nat.reduceMul, Nat.reduceSub, Nat.reduceLeDiff, Int.reduceToNat, Int.reduceNeg, Int.reduceLT, Int.reduceLE, Int.reduceEq, reduceCtorEq, Int.natCast_zero, Int.natCast_one, Int.cast_ofNat_Int, Bool.not_not, false_eq_decide, true_eq_decide, hread0, hreadk, read_cons0, read_consk, astore_h0, astore_hk, hget0, hgetk, hset0, hsetk, hlen, hcat, Nat.add_assoc, Nat.add_zero, Nat.zero_add, List.length_append, and_true, true_and, AV.flat, g1, get_app g1, read_get g1, read_app g1, g3, get_app g3, read_get g3, read_app g3, hxo, one_solid hxo, one_cells hxo, *, -hK, -hb, -W, -kJ, -g1, -g2, -g3, -hps, -back2, -hx, -hgx, -ow, -hxp, -c1, -hJl, -hJ2, -hpl1, -hpls, -hbl, -hks] | with_reducible refine IfB_dec (fun h => ?_) (fun h => ?_) | with_reducible refine Guard_dec (fun h => ?_) (fun h => ?_) | with_reducible refine Guard_ndec (fun h => ?_) (fun h => ?_) | with_reducible refine Guard_not (fun h => ?_) (fun h => ?_) | with_reducible refine IfB_ndec (fun h => ?_) (fun h => ?_) | with_reducible refine IfB_not (fun h => ?_) (fun h => ?_) | with_reducible refine Guard_split (fun h => ?_) (fun h => ?_) | with_reducible refine IfB_split (fun h => ?_) (fun h => ?_))
  refine (c1 _).mono ?_
  rintro _ J9 ⟨rfl, hJ9⟩
  replace hJ9 := hJ9.symm
  subst hJ9
  repeat' (first | simp only [go_sem, Nat.reduceLT, Nat.reduceEqDiff, Nat.reduceAdd, Nat.reduceMul, Nat.reduceSub, Nat.reduceLeDiff, Int.reduceToNat, Int.reduceNeg, Int.reduceLT, Int.reduceLE, Int.reduceEq, reduceCtorEq, Int.natCast_zero, Int.natCast_one, Int.cast_ofNat_Int, Bool.not_not, false_eq_decide, true_eq_decide, hread0, hreadk, read_cons0, read_consk, astore_h0, astore_hk, hget0, hgetk, hset0, hsetk, hlen, hcat, Nat.add_assoc, Nat.add_zero, Nat.zero_add, List.length_append, and_true, true_and, AV.flat, g1, get_app g1, read_get g1, read_app g1, g3, get_app g3, read_get g3, read_app g3, hxo, one_solid hxo, one_cells hxo, *, -hK, -hb, -W, -kJ, -g1, -g2, -g3, -hps, -back2, -hx, -hgx, -ow, -hxp, -c1, -hJl, -hJ2, -hpl1, -hpls, -hbl, -hks] | with_reducible refine IfB_dec (fun h => ?_) (fun h => ?_) | with_reducible refine Guard_dec (fun h => ?_) (fun h => ?_) | with_reducible refine Guard_ndec (fun h => ?_) (fun h => ?_) | with_reducible refine Guard_not (fun h => ?_) (fun h => ?_) | with_reducible refine IfB_ndec (fun h => ?_) (fun h => ?_) | with_reducible refine IfB_not (fun h => ?_) (fun h => ?_) | with_reducible refine Guard_split (fun h => ?_) (fun h => ?_) | with_reducible refine IfB_split (fun h => ?_) (fun h => ?_))
  have hbl2 : ll.length ≤ 300 := by omega
  refine append_own (k := 1) (xs := tktE.cells (t.at_ nx)) (ow.keep0 (Keep.app none J _)) se31 az38 td38 (asrc_sl tk31 (Vs.sl (vs_at (st := .full) (by simp; exact ⟨rfl, rfl⟩) rfl rfl))) rfl (by decide) (by rw [Enc.row_length]; show (ll.length * 12 + 12) * 120 ≤ _; omega) (by rw [Enc.row_length]; show ll.length * 12 + 12 ≤ _; omega) (by simp; omega) ?_
  intro v2 J3 ov2 k2 hn2
  have hv2 := ov2.one
  have o2 : OwnE tktE (H.length + 3) J3 v2 (ll ++ [t.at_ nx]) := by unfold OwnE; rw [Enc.row_append, Enc.row_one]; exact ov2
  have z3 := k2.get (get_app g3 _) (hps kk x hx)
  have z1 := k2.get (get_app g1 _) (fun e => by have := ow.ge e; omega)
  have z4 : J3[J.length]? = some (⟨[.int .i64 nx, .int .u8 t.kind, .int .u8 t.cmd.kind, .int .i64 t.cmd.ten, Enc.str.lst t.cmd.keys, .str t.cmd.val, .int .u32 t.cmd.flags, .int .i64 t.cmd.for_, .int .u64 t.cmd.uniq, .int .u64 t.cmd.by_, .int .i64 t.ten, .int .i64 t.to], 12, .full⟩ : Blk) := k2.get (by simp) (fun e => by have := ow.lt e; omega)
  have hp3 : J3[p]? = J[p]? := by rw [k2.at_ _ (by have := W.lt; simp; omega) (fun e => hxp e), List.getElem?_append_left W.lt]
  have rd3 : J3.read p kk 1 = some [x] := by have := W.read hx; unfold Heap.read at this ⊢; rw [hp3]; exact this
  obtain ⟨sq1, sq2⟩ := own_sc o2
  obtain ⟨st, rest, hst, w1⟩ := W.store (T' := T) hx hp3 (te := 31) (by simp only [asize, td31, Option.map_some]) sq1 sq2
  have kk2 : Keep x.blk J J3 := (Keep.weak (Keep.app none J _)).trans k2
  have W2 := W.upd hx (by rw [hgx]) kk2 o2 (fun b hb => (hn2 b hb).imp id (fun h => by simp only [List.length_append] at h; omega)) rest st hst
  have hJ3 : J.length ≤ J3.length := kk2.len
  have y2 : J3[H.length + 2]? = some (⟨[.int .i64 0, .nils], 0, .full⟩ : Blk) := kk2.get g2 (fun e => by have := ow.ge e; omega)
  have hpg2 := W.ge
  have hpl2 := W.lt
  have kJ3 : Keep none H (List.set J3 p ⟨qs.set kk v2 ++ rest, 1, st⟩) := ⟨by rw [List.length_set]; have := kJ.len; omega, fun b hb _ => by
    rw [List.getElem?_set_ne (by omega), kk2.at_ _ (by omega) (fun e => by have := ow.ge e; omega)]; exact kJ.at_ b hb (by simp)⟩
  have hps2 : ∀ (j : Nat) (z : AV), (qs.set kk v2)[j]? = some z → z.blk ≠ some ob := fun j z hz => by
    by_cases e : kk = j
    · subst e
      rw [List.getElem?_set_self (List.getElem?_eq_some_iff.1 hx).1] at hz
      cases hz
      intro e2
      rcases hn2 _ e2 with h | h
      · exact hps kk x hx h
      · simp only [List.length_append] at h; omega
    · rw [List.getElem?_set_ne e] at hz
      exact hps j z hz
  generalize hG3 : (List.set J3 p ⟨qs.set kk v2 ++ rest, 1, st⟩ : Heap) = J4 at *
  have y4 : J4[H.length + 1]? = some (⟨[.int .i64 nx, .int .u8 t.kind, .int .u8 t.cmd.kind, .int .i64 t.cmd.ten, Enc.str.lst t.cmd.keys, .str t.cmd.val, .int .u32 t.cmd.flags, .int .i64 t.cmd.for_, .int .u64 t.cmd.uniq, .int .u64 t.cmd.by_, .int .i64 t.ten, .int .i64 t.to], 0, .full⟩ : Blk) := by rw [← hG3, List.getElem?_set_ne (by omega)]; exact z1
  have y5 : J4[H.length + 2]? = some (⟨[.int .i64 0, .nils], 0, .full⟩ : Blk) := by rw [← hG3, List.getElem?_set_ne (by omega)]; exact y2
  have y6 : J4[ob]? = some (⟨[.int .i64 nx, .sl p 0 bs.length none], 0, .full⟩ : Blk) := by rw [← hG3, List.getElem?_set_ne (by omega)]; exact z3
  clear hG3 k2 hn2 kk2 y2 o2 ov2 W rd hst hp3 hps
  repeat' (first | simp only [go_sem, Nat.reduceLT, Nat.reduceEqDiff, Nat.reduceAdd, Nat.reduceMul, Nat.reduceSub, Nat.reduceLeDiff, Int.reduceToNat, Int.reduceNeg, Int.reduceLT, Int.reduceLE, Int.reduceEq, reduceCtorEq, Int.natCast_zero, Int.natCast_one, Int.cast_ofNat_Int, Bool.not_not, false_eq_decide, true_eq_decide, hread0, hreadk, read_cons0, read_consk, astore_h0, astore_hk, hget0, hgetk, hset0, hsetk, hlen, hcat, Nat.add_assoc, Nat.add_zero, Nat.zero_add, List.length_append, and_true, true_and, AV.flat, z1, get_app z1, read_get z1, read_app z1, z3, get_app z3, read_get z3, read_app z3, z4, get_app z4, read_get z4, read_app z4, hxo, one_solid hxo, one_cells hxo, hv2, one_solid hv2, one_cells hv2, *, -hK, -hb, -kJ, -g1, -g2, -g3, -back2, -hx, -hgx, -ow, -hxp, -c1, -hJl, -hJ2, -hpl1, -hpls, -hbl, -hks, -W2, -kJ3, -hps2, -y4, -y5, -y6, -hJ3, -hpg2, -hpl2, -hbl2] | with_reducible refine IfB_dec (fun h => ?_) (fun h => ?_) | with_reducible refine Guard_dec (fun h => ?_) (fun h => ?_) | with_reducible refine Guard_ndec (fun h => ?_) (fun h => ?_) | with_reducible refine Guard_not (fun h => ?_) (fun h => ?_) | with_reducible refine IfB_ndec (fun h => ?_) (fun h => ?_) | with_reducible refine IfB_not (fun h => ?_) (fun h => ?_) | with_reducible refine Guard_split (fun h => ?_) (fun h => ?_) | with_reducible refine IfB_split (fun h => ?_) (fun h => ?_))
  exact back2 _ _ _ (by (repeat (first | exact hs | refine hA _ _ _ (by decide) ?_))) (by simp only [go_sem, Nat.reduceLT, Nat.reduceEqDiff, Nat.reduceAdd, Nat.reduceMul, Nat.reduceSub, Nat.reduceLeDiff, Int.reduceToNat, Int.reduceNeg, Int.reduceLT, Int.reduceLE, Int.reduceEq, reduceCtorEq]) kJ3 y4 y5 y6 W2 hps2
end Go.Proofs.Ytkmkhiipiflelaa
