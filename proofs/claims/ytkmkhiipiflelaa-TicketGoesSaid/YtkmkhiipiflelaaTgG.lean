import Derived.Test.YtkmkhiipiflelaaTgF
set_option linter.unusedSimpArgs false
set_option linter.unusedVariables false
set_option maxRecDepth 100000
set_option maxHeartbeats 4000000
namespace Go.Proofs.Ytkmkhiipiflelaa
open Go Go.Proofs Go.Proofs.PI
/-! ### may inboxes be -/
def lastG (last : Int) (l : List Tkt) : Nat → Int
  | 0 => last
  | k + 1 => (l[k]?.map Tkt.num).getD last
def okT (b : List (List Tkt)) (nx : Int) (last : Int) (t : Tkt) : Prop := t.mayB = true ∧ last < t.num ∧ t.num < nx ∧ whereL b t = shardsL t b.length
theorem boxB_iff {b : List (List Tkt)} {nx : Int} : ∀ {l : List Tkt} {last : Int}, boxB b nx last l = true ↔ ∀ (k : Nat) (t : Tkt), l[k]? = some t → okT b nx (lastG last l k) t
  | [], last => ⟨fun _ k t h => by simp at h, fun _ => rfl⟩
  | t :: l, last => by
    unfold boxB
    simp only [Bool.and_eq_true, decide_eq_true_eq]
    constructor
    · rintro ⟨⟨⟨h1, h2⟩, h3⟩, h4⟩ k u hu
      cases k with
      | zero =>
        simp only [List.getElem?_cons_zero, Option.some.injEq] at hu
        subst hu
        exact ⟨h1, h2.1, h2.2, h3⟩
      | succ k =>
        rw [List.getElem?_cons_succ] at hu
        have := (boxB_iff (l := l)).1 h4 k u hu
        have e : lastG last (t :: l) (k + 1) = lastG t.num l k := by
          cases k with
          | zero => rfl
          | succ k =>
            have hk : k < l.length := by have := (List.getElem?_eq_some_iff.1 hu).1; omega
            show ((t :: l)[k + 1]?.map Tkt.num).getD last = (l[k]?.map Tkt.num).getD t.num
            rw [List.getElem?_cons_succ, List.getElem?_eq_getElem hk]; rfl
        rw [e]; exact this
    · intro h
      obtain ⟨h1, h2, h3, h4⟩ := h 0 t rfl
      refine ⟨⟨⟨h1, h2, h3⟩, h4⟩, (boxB_iff (l := l)).2 fun k u hu => ?_⟩
      have h5 := h (k + 1) u (by rw [List.getElem?_cons_succ]; exact hu)
      have e : lastG last (t :: l) (k + 1) = lastG t.num l k := by
        cases k with
        | zero => rfl
        | succ k =>
          have hk : k < l.length := by have := (List.getElem?_eq_some_iff.1 hu).1; omega
          show ((t :: l)[k + 1]?.map Tkt.num).getD last = (l[k]?.map Tkt.num).getD t.num
          rw [List.getElem?_cons_succ, List.getElem?_eq_getElem hk]; rfl
      rw [e] at h5; exact h5
theorem where_iff {b : List (List Tkt)} {t : Tkt} : whereL b t = shardsL t b.length ↔ ∀ s : Nat, s < b.length → (decide (t ∈ b[s]?.getD []) = decide ((s : Int) ∈ shardsL t b.length)) := by
  constructor
  · intro h s hs
    rw [decide_eq_decide, ← h, mem_whereL]
    constructor
    · intro hm
      rw [List.getElem?_eq_getElem hs] at hm
      exact ⟨s, rfl, hs, hm⟩
    · rintro ⟨k, hk, hk2, hm⟩
      have : s = k := by omega
      subst this
      rw [List.getElem?_eq_getElem hs]; exact hm
  · intro h
    rw [shardsL_filter t b.length]
    unfold whereL
    congr 1
    exact List.filter_congr fun i hi => h i (List.mem_range.1 hi)
theorem fits_spec (q : Que) (hb : qFit q.bx) (H : Heap) : WC Try.prog 40 [q.av] H fun r H' => r = .bool (decide q.may) ∧ H' = H := by
  refine WC_val fun K hK => ?_
  obtain ⟨nx, bs⟩ := q
  simp only at hb
  obtain ⟨hb1, hb2⟩ := hb
  unfold Que.av
  simp only
  by_cases n1 : 1 ≤ bs.length
  rotate_left
  · have i1 : (bs.length : Int) < 1 := by omega
    rw [decide_eq_false (fun h => n1 h.1)] at hK
    refine WC_of_body hT Try.func40 rfl (by simp [Try.f40]) (by simp [Try.f40]) (wx_sound hT _ ?_)
    simp only [Try.f40]
    repeat' (first | simp only [go_sem, Nat.reduceLT, Nat.reduceEqDiff, Nat.reduceAdd, Nat.reduceMul, Nat.reduceSub, Nat.reduceLeDiff, Int.reduceToNat, Int.reduceNeg, Int.reduceLT, Int.reduceLE, Int.reduceEq, reduceCtorEq, Int.natCast_zero, Int.natCast_one, Int.cast_ofNat_Int, Bool.not_not, false_eq_decide, true_eq_decide, hread0, hreadk, read_cons0, read_consk, astore_h0, astore_hk, hget0, hgetk, hset0, hsetk, hlen, hcat, Nat.add_assoc, Nat.add_zero, Nat.zero_add, List.length_append, and_true, true_and, AV.flat, *, -hK, -hb2] | with_reducible refine IfB_dec (fun h => ?_) (fun h => ?_) | with_reducible refine Guard_dec (fun h => ?_) (fun h => ?_) | with_reducible refine Guard_ndec (fun h => ?_) (fun h => ?_) | with_reducible refine Guard_not (fun h => ?_) (fun h => ?_) | with_reducible refine IfB_ndec (fun h => ?_) (fun h => ?_) | with_reducible refine IfB_not (fun h => ?_) (fun h => ?_) | with_reducible refine Guard_split (fun h => ?_) (fun h => ?_) | with_reducible refine IfB_split (fun h => ?_) (fun h => ?_))
    exact hK _ _ (.bool _) (Keep.app _ _ _)
  by_cases n2 : bs.length ≤ 4
  rotate_left
  · have i1 : ¬ (bs.length : Int) < 1 := by omega
    have i2 : (bs.length : Int) > 4 := by omega
    rw [decide_eq_false (fun h => n2 h.2.1)] at hK
    refine WC_of_body hT Try.func40 rfl (by simp [Try.f40]) (by simp [Try.f40]) (wx_sound hT _ ?_)
    simp only [Try.f40]
    repeat' (first | simp only [go_sem, Nat.reduceLT, Nat.reduceEqDiff, Nat.reduceAdd, Nat.reduceMul, Nat.reduceSub, Nat.reduceLeDiff, Int.reduceToNat, Int.reduceNeg, Int.reduceLT, Int.reduceLE, Int.reduceEq, reduceCtorEq, Int.natCast_zero, Int.natCast_one, Int.cast_ofNat_Int, Bool.not_not, false_eq_decide, true_eq_decide, hread0, hreadk, read_cons0, read_consk, astore_h0, astore_hk, hget0, hgetk, hset0, hsetk, hlen, hcat, Nat.add_assoc, Nat.add_zero, Nat.zero_add, List.length_append, and_true, true_and, AV.flat, *, -hK, -hb2] | with_reducible refine IfB_dec (fun h => ?_) (fun h => ?_) | with_reducible refine Guard_dec (fun h => ?_) (fun h => ?_) | with_reducible refine Guard_ndec (fun h => ?_) (fun h => ?_) | with_reducible refine Guard_not (fun h => ?_) (fun h => ?_) | with_reducible refine IfB_ndec (fun h => ?_) (fun h => ?_) | with_reducible refine IfB_not (fun h => ?_) (fun h => ?_) | with_reducible refine Guard_split (fun h => ?_) (fun h => ?_) | with_reducible refine IfB_split (fun h => ?_) (fun h => ?_))
    exact hK _ _ (.bool _) (Keep.app _ _ _)
  have i1 : ¬ (bs.length : Int) < 1 := by omega
  have i2 : ¬ (bs.length : Int) > 4 := by omega
  by_cases n3 : nx < 0
  · rw [decide_eq_false (fun h => by have := h.2.2.1; simp only at this; omega)] at hK
    refine WC_of_body hT Try.func40 rfl (by simp [Try.f40]) (by simp [Try.f40]) (wx_sound hT _ ?_)
    simp only [Try.f40]
    repeat' (first | simp only [go_sem, Nat.reduceLT, Nat.reduceEqDiff, Nat.reduceAdd, Nat.reduceMul, Nat.reduceSub, Nat.reduceLeDiff, Int.reduceToNat, Int.reduceNeg, Int.reduceLT, Int.reduceLE, Int.reduceEq, reduceCtorEq, Int.natCast_zero, Int.natCast_one, Int.cast_ofNat_Int, Bool.not_not, false_eq_decide, true_eq_decide, hread0, hreadk, read_cons0, read_consk, astore_h0, astore_hk, hget0, hgetk, hset0, hsetk, hlen, hcat, Nat.add_assoc, Nat.add_zero, Nat.zero_add, List.length_append, and_true, true_and, AV.flat, *, -hK, -hb2] | with_reducible refine IfB_dec (fun h => ?_) (fun h => ?_) | with_reducible refine Guard_dec (fun h => ?_) (fun h => ?_) | with_reducible refine Guard_ndec (fun h => ?_) (fun h => ?_) | with_reducible refine Guard_not (fun h => ?_) (fun h => ?_) | with_reducible refine IfB_ndec (fun h => ?_) (fun h => ?_) | with_reducible refine IfB_not (fun h => ?_) (fun h => ?_) | with_reducible refine Guard_split (fun h => ?_) (fun h => ?_) | with_reducible refine IfB_split (fun h => ?_) (fun h => ?_))
    exact hK _ _ (.bool _) (Keep.app _ _ _)
  by_cases n4 : nx > 1099511627776
  · rw [decide_eq_false (fun h => by have := h.2.2.2.1; simp only at this; omega)] at hK
    refine WC_of_body hT Try.func40 rfl (by simp [Try.f40]) (by simp [Try.f40]) (wx_sound hT _ ?_)
    simp only [Try.f40]
    repeat' (first | simp only [go_sem, Nat.reduceLT, Nat.reduceEqDiff, Nat.reduceAdd, Nat.reduceMul, Nat.reduceSub, Nat.reduceLeDiff, Int.reduceToNat, Int.reduceNeg, Int.reduceLT, Int.reduceLE, Int.reduceEq, reduceCtorEq, Int.natCast_zero, Int.natCast_one, Int.cast_ofNat_Int, Bool.not_not, false_eq_decide, true_eq_decide, hread0, hreadk, read_cons0, read_consk, astore_h0, astore_hk, hget0, hgetk, hset0, hsetk, hlen, hcat, Nat.add_assoc, Nat.add_zero, Nat.zero_add, List.length_append, and_true, true_and, AV.flat, *, -hK, -hb2] | with_reducible refine IfB_dec (fun h => ?_) (fun h => ?_) | with_reducible refine Guard_dec (fun h => ?_) (fun h => ?_) | with_reducible refine Guard_ndec (fun h => ?_) (fun h => ?_) | with_reducible refine Guard_not (fun h => ?_) (fun h => ?_) | with_reducible refine IfB_ndec (fun h => ?_) (fun h => ?_) | with_reducible refine IfB_not (fun h => ?_) (fun h => ?_) | with_reducible refine Guard_split (fun h => ?_) (fun h => ?_) | with_reducible refine IfB_split (fun h => ?_) (fun h => ?_))
    exact hK _ _ (.bool _) (Keep.app _ _ _)
  refine WC_of_body hT Try.func40 rfl (by simp [Try.f40]) (by simp [Try.f40]) (wx_sound hT _ ?_)
  simp only [Try.f40]
  repeat' (first | simp only [go_sem, Nat.reduceLT, Nat.reduceEqDiff, Nat.reduceAdd, Nat.reduceMul, Nat.reduceSub, Nat.reduceLeDiff, Int.reduceToNat, Int.reduceNeg, Int.reduceLT, Int.reduceLE, Int.reduceEq, reduceCtorEq, Int.natCast_zero, Int.natCast_one, Int.cast_ofNat_Int, Bool.not_not, false_eq_decide, true_eq_decide, hread0, hreadk, read_cons0, read_consk, astore_h0, astore_hk, hget0, hgetk, hset0, hsetk, hlen, hcat, Nat.add_assoc, Nat.add_zero, Nat.zero_add, List.length_append, and_true, true_and, AV.flat, *, -hK, -hb2] | with_reducible refine IfB_dec (fun h => ?_) (fun h => ?_) | with_reducible refine Guard_dec (fun h => ?_) (fun h => ?_) | with_reducible refine Guard_ndec (fun h => ?_) (fun h => ?_) | with_reducible refine Guard_not (fun h => ?_) (fun h => ?_) | with_reducible refine IfB_ndec (fun h => ?_) (fun h => ?_) | with_reducible refine IfB_not (fun h => ?_) (fun h => ?_) | with_reducible refine Guard_split (fun h => ?_) (fun h => ?_) | with_reducible refine IfB_split (fun h => ?_) (fun h => ?_))
  have kG : Keep none H (H ++ [(⟨[.int .i64 nx, boxE.lst bs], 0, .full⟩ : Blk)]) := Keep.app _ _ _
  have g1 : (H ++ [(⟨[.int .i64 nx, boxE.lst bs], 0, .full⟩ : Blk)])[H.length]? = some ⟨[.int .i64 nx, boxE.lst bs], 0, .full⟩ := by simp
  generalize (H ++ [(⟨[.int .i64 nx, boxE.lst bs], 0, .full⟩ : Blk)] : Heap) = G at *
  refine WX_loopS [1, 3] (fun kn fr' J => ∃ i : Nat, kn = bs.length - i ∧ i ≤ bs.length ∧ fr'.get 4 = .int .i64 i ∧ Keep none H J ∧ J[H.length]? = some (⟨[.int .i64 nx, boxE.lst bs], 0, .full⟩ : Blk) ∧ ∀ l ∈ bs.take i, l.length ≤ 256 ∧ boxB bs nx (-1) l = true) bs.length ⟨0, rfl, by omega, by simp only [go_sem, Nat.reduceLT, Nat.reduceEqDiff, Nat.reduceAdd, Nat.reduceMul, Nat.reduceSub, Nat.reduceLeDiff, Int.reduceToNat, Int.reduceNeg, Int.reduceLT, Int.reduceLE, Int.reduceEq, reduceCtorEq]; rfl, kG, g1, by simp⟩ ?_
  clear kG g1
  rintro kn fr' J A R hA hs hg hR ⟨i, rfl, hi, f4, kJ, g1, hgood⟩
  have s1 := hg 1 (by decide)
  have s3 := hg 3 (by decide)
  simp only [Fr.get_put, Fr.get_init, List.getD_cons_zero, List.getD_cons_succ, Nat.reduceEqDiff, if_true, if_false] at s1 s3
  refine wx_sound hT _ ?_
  by_cases hlt : i < bs.length
  rotate_left
  · have i3 : ¬ (i : Int) < bs.length := by omega
    rw [List.take_of_length_le (by omega)] at hgood
    rw [decide_eq_true (show (⟨nx, bs⟩ : Que).may from ⟨n1, n2, by show 0 ≤ nx; omega, by show nx ≤ _; omega, hgood⟩)] at hK
    repeat' (first | simp only [go_sem, Nat.reduceLT, Nat.reduceEqDiff, Nat.reduceAdd, Nat.reduceMul, Nat.reduceSub, Nat.reduceLeDiff, Int.reduceToNat, Int.reduceNeg, Int.reduceLT, Int.reduceLE, Int.reduceEq, reduceCtorEq, Int.natCast_zero, Int.natCast_one, Int.cast_ofNat_Int, Bool.not_not, false_eq_decide, true_eq_decide, hread0, hreadk, read_cons0, read_consk, astore_h0, astore_hk, hget0, hgetk, hset0, hsetk, hlen, hcat, Nat.add_assoc, Nat.add_zero, Nat.zero_add, List.length_append, and_true, true_and, AV.flat, g1, get_app g1, read_get g1, read_app g1, *, -hK, -hb2, -hlt, -hgood, -n1, -n2, -n3, -n4, -kJ] | with_reducible refine IfB_dec (fun h => ?_) (fun h => ?_) | with_reducible refine Guard_dec (fun h => ?_) (fun h => ?_) | with_reducible refine Guard_ndec (fun h => ?_) (fun h => ?_) | with_reducible refine Guard_not (fun h => ?_) (fun h => ?_) | with_reducible refine IfB_ndec (fun h => ?_) (fun h => ?_) | with_reducible refine IfB_not (fun h => ?_) (fun h => ?_) | with_reducible refine Guard_split (fun h => ?_) (fun h => ?_) | with_reducible refine IfB_split (fun h => ?_) (fun h => ?_))
    exact hK _ _ (.bool _) kJ
  have i3 : (i : Int) < bs.length := by omega
  have e3 := inc_id hlt (by omega)
  have e1 := at_enc (E := boxE) (T := T) (k := .i64) se22 hlt rfl
  rw [boxE_cells] at e1
  have hmem := List.getElem_mem hlt
  obtain ⟨hl1, hl2⟩ := hb2 _ hmem
  have hts := List.take_succ_eq_append_getElem hlt
  have back : (bs[i].length ≤ 256 ∧ boxB bs nx (-1) bs[i] = true) → ∀ fr2 J2, A fr2 → fr2.get 4 = .int .i64 ((i + 1 : Nat) : Int) → Keep none H J2 → J2[H.length]? = some (⟨[.int .i64 nx, boxE.lst bs], 0, .full⟩ : Blk) → R fr2 J2 := fun h fr2 J2 ha q1 q2 q3 => hR fr2 J2 ha (bs.length - (i + 1)) (by omega) ⟨i + 1, rfl, by omega, q1, q2, q3, fun l hl => by
    rw [hts] at hl
    rcases List.mem_append.1 hl with hl | hl
    · exact hgood l hl
    · rw [List.mem_singleton.1 hl]; exact h⟩
  have hnoB : ¬ (bs[i].length ≤ 256 ∧ boxB bs nx (-1) bs[i] = true) → ¬ (⟨nx, bs⟩ : Que).may := fun h hm => h (hm.2.2.2.2 _ hmem)
  clear hR hts hmem
  generalize bs[i] = l at *
  by_cases hl256 : l.length ≤ 256
  rotate_left
  · have i4 : (l.length : Int) > 256 := by omega
    rw [decide_eq_false (hnoB fun h => hl256 h.1)] at hK
    clear hnoB back
    repeat' (first | simp only [go_sem, Nat.reduceLT, Nat.reduceEqDiff, Nat.reduceAdd, Nat.reduceMul, Nat.reduceSub, Nat.reduceLeDiff, Int.reduceToNat, Int.reduceNeg, Int.reduceLT, Int.reduceLE, Int.reduceEq, reduceCtorEq, Int.natCast_zero, Int.natCast_one, Int.cast_ofNat_Int, Bool.not_not, false_eq_decide, true_eq_decide, hread0, hreadk, read_cons0, read_consk, astore_h0, astore_hk, hget0, hgetk, hset0, hsetk, hlen, hcat, Nat.add_assoc, Nat.add_zero, Nat.zero_add, List.length_append, and_true, true_and, AV.flat, g1, get_app g1, read_get g1, read_app g1, *, -hK, -hb2, -hlt, -hgood, -n1, -n2, -n3, -n4, -kJ, -hl1, -hl2, -hl256] | with_reducible refine IfB_dec (fun h => ?_) (fun h => ?_) | with_reducible refine Guard_dec (fun h => ?_) (fun h => ?_) | with_reducible refine Guard_ndec (fun h => ?_) (fun h => ?_) | with_reducible refine Guard_not (fun h => ?_) (fun h => ?_) | with_reducible refine IfB_ndec (fun h => ?_) (fun h => ?_) | with_reducible refine IfB_not (fun h => ?_) (fun h => ?_) | with_reducible refine Guard_split (fun h => ?_) (fun h => ?_) | with_reducible refine IfB_split (fun h => ?_) (fun h => ?_))
    exact hK _ _ (.bool _) kJ
  have i4 : ¬ (l.length : Int) > 256 := by omega
  replace hnoB : ¬ boxB bs nx (-1) l = true → ¬ (⟨nx, bs⟩ : Que).may := fun h => hnoB fun h2 => h h2.2
  replace back := fun h => back ⟨hl256, h⟩
  rw [boxB_iff] at hnoB back
  repeat' (first | simp only [go_sem, Nat.reduceLT, Nat.reduceEqDiff, Nat.reduceAdd, Nat.reduceMul, Nat.reduceSub, Nat.reduceLeDiff, Int.reduceToNat, Int.reduceNeg, Int.reduceLT, Int.reduceLE, Int.reduceEq, reduceCtorEq, Int.natCast_zero, Int.natCast_one, Int.cast_ofNat_Int, Bool.not_not, false_eq_decide, true_eq_decide, hread0, hreadk, read_cons0, read_consk, astore_h0, astore_hk, hget0, hgetk, hset0, hsetk, hlen, hcat, Nat.add_assoc, Nat.add_zero, Nat.zero_add, List.length_append, and_true, true_and, AV.flat, g1, get_app g1, read_get g1, read_app g1, *, -hK, -hb2, -hlt, -hgood, -n1, -n2, -n3, -n4, -kJ, -hl1, -hl2, -hl256, -hnoB, -back] | with_reducible refine IfB_dec (fun h => ?_) (fun h => ?_) | with_reducible refine Guard_dec (fun h => ?_) (fun h => ?_) | with_reducible refine Guard_ndec (fun h => ?_) (fun h => ?_) | with_reducible refine Guard_not (fun h => ?_) (fun h => ?_) | with_reducible refine IfB_ndec (fun h => ?_) (fun h => ?_) | with_reducible refine IfB_not (fun h => ?_) (fun h => ?_) | with_reducible refine Guard_split (fun h => ?_) (fun h => ?_) | with_reducible refine IfB_split (fun h => ?_) (fun h => ?_))
  have hA0 := hA
  have o1 := s1
  have o3 := s3
  refine WX_loopS [1, 3, 4] (fun kn fr2 J2 => ∃ k : Nat, kn = l.length - k ∧ k ≤ l.length ∧ fr2.get 5 = .int .i64 k ∧ Keep none H J2 ∧ J2[H.length]? = some (⟨[.int .i64 nx, boxE.lst bs], 0, .full⟩ : Blk) ∧ (∀ (k' : Nat) (t : Tkt), k' < k → l[k']? = some t → okT bs nx (lastG (-1) l k') t) ∧ -1 ≤ lastG (-1) l k ∧ A fr2) l.length ⟨0, rfl, by omega, by simp only [go_sem, Nat.reduceLT, Nat.reduceEqDiff, Nat.reduceAdd, Nat.reduceMul, Nat.reduceSub, Nat.reduceLeDiff, Int.reduceToNat, Int.reduceNeg, Int.reduceLT, Int.reduceLE, Int.reduceEq, reduceCtorEq]; rfl, kJ, g1, fun k' t h => by omega, Int.le_refl _, by (repeat (first | exact hs | refine hA _ _ _ (by decide) ?_))⟩ ?_
  clear hg hs hA s1 s3 g1 kJ
  rintro kn fr2 J2 A2 R2 hA hs hg hR2 ⟨k, rfl, hk, f5, kJ, g1, hpre, hge, hAf⟩
  have s1 := hg 1 (by decide)
  have s3 := hg 3 (by decide)
  have s4 := hg 4 (by decide)
  simp only [Fr.get_put, Fr.get_init, List.getD_cons_zero, List.getD_cons_succ, Nat.reduceEqDiff, if_true, if_false] at s1 s3 s4
  rw [o1] at s1
  rw [o3] at s3
  rw [f4] at s4
  clear o1 o3 f4
  refine wx_sound hT _ ?_
  by_cases hlz : k < l.length
  rotate_left
  · have i6 : ¬ (k : Int) < l.length := by omega
    have hfin := back fun k' t h => hpre k' t (by have := (List.getElem?_eq_some_iff.1 h).1; omega) h
    repeat' (first | simp only [go_sem, Nat.reduceLT, Nat.reduceEqDiff, Nat.reduceAdd, Nat.reduceMul, Nat.reduceSub, Nat.reduceLeDiff, Int.reduceToNat, Int.reduceNeg, Int.reduceLT, Int.reduceLE, Int.reduceEq, reduceCtorEq, Int.natCast_zero, Int.natCast_one, Int.cast_ofNat_Int, Bool.not_not, false_eq_decide, true_eq_decide, hread0, hreadk, read_cons0, read_consk, astore_h0, astore_hk, hget0, hgetk, hset0, hsetk, hlen, hcat, Nat.add_assoc, Nat.add_zero, Nat.zero_add, List.length_append, and_true, true_and, AV.flat, g1, get_app g1, read_get g1, read_app g1, *, -hK, -hb2, -hlt, -hgood, -n1, -n2, -n3, -n4, -kJ, -hl1, -hl2, -hl256, -hnoB, -back, -hlz, -hpre, -hge, -hfin] | with_reducible refine IfB_dec (fun h => ?_) (fun h => ?_) | with_reducible refine Guard_dec (fun h => ?_) (fun h => ?_) | with_reducible refine Guard_ndec (fun h => ?_) (fun h => ?_) | with_reducible refine Guard_not (fun h => ?_) (fun h => ?_) | with_reducible refine IfB_ndec (fun h => ?_) (fun h => ?_) | with_reducible refine IfB_not (fun h => ?_) (fun h => ?_) | with_reducible refine Guard_split (fun h => ?_) (fun h => ?_) | with_reducible refine IfB_split (fun h => ?_) (fun h => ?_))
    exact hfin _ _ (by repeat (first | exact hAf | refine hA0 _ _ _ (by decide) ?_)) (by simp only [go_sem, Nat.reduceLT, Nat.reduceEqDiff, Nat.reduceAdd, Nat.reduceMul, Nat.reduceSub, Nat.reduceLeDiff, Int.reduceToNat, Int.reduceNeg, Int.reduceLT, Int.reduceLE, Int.reduceEq, reduceCtorEq]) kJ g1
  have i6 : (k : Int) < l.length := by omega
  have e4 := inc_id hlz (by omega)
  have e2 := at_enc (E := tktE) (T := T) (k := .i64) se31 hlz rfl
  rw [tktE_cells] at e2
  obtain ⟨hq1, hq2⟩ := hl2 _ (List.getElem_mem hlz)
  have hgk : l[k]? = some l[k] := List.getElem?_eq_getElem hlz
  have hno : ¬ okT bs nx (lastG (-1) l k) l[k] → ¬ (⟨nx, bs⟩ : Que).may := fun h => hnoB fun h2 => h (h2 k _ hgk)
  have hls : lastG (-1) l (k + 1) = l[k].num := by show (l[k]?.map Tkt.num).getD (-1) = _; rw [hgk]; rfl
  have back2 : okT bs nx (lastG (-1) l k) l[k] → ∀ fr3 J3, A2 fr3 → fr3.get 5 = .int .i64 ((k + 1 : Nat) : Int) → Keep none H J3 → J3[H.length]? = some (⟨[.int .i64 nx, boxE.lst bs], 0, .full⟩ : Blk) → A fr3 → R2 fr3 J3 := fun h fr3 J3 ha q1 q2 q3 q4 => hR2 fr3 J3 ha (l.length - (k + 1)) (by omega) ⟨k + 1, rfl, by omega, q1, q2, q3, fun k' t hk' ht => by
    by_cases e : k' = k
    · subst e; rw [hgk] at ht; cases ht; exact h
    · exact hpre k' t (by omega) ht, by rw [hls]; have := h.2.1; omega, q4⟩
  have my := fun J => may12_spec l[k] hq1 J
  have hwiff := where_iff (b := bs) (t := l[k])
  have hlast : (k = 0 ∧ lastG (-1) l k = -1) ∨ ∃ (p : Nat) (hp : p < l.length), k = p + 1 ∧ lastG (-1) l k = l[p].num := by
    cases k with
    | zero => exact .inl ⟨rfl, rfl⟩
    | succ p => exact .inr ⟨p, by omega, rfl, by show (l[p]?.map Tkt.num).getD (-1) = _; rw [List.getElem?_eq_getElem (by omega)]; rfl⟩
  clear hR2 hnoB back hls hgk
  have e5 : ∀ (p : Nat) (hp : p < l.length), aindexAddr T 31 (tktE.lst l) (.int .i64 ((p : Nat) : Int)) = some (.cptr (tktE.cells l[p])) := fun p hp => at_enc (E := tktE) (T := T) (k := .i64) se31 hp rfl
  generalize l[k] = t at *
  generalize hlg : lastG (-1) l k = lg at *
  have hok : (t.mayB = true ∧ lg < t.num ∧ t.num < nx) → whereL bs t = shardsL t bs.length → okT bs nx lg t := fun h h2 => ⟨h.1, h.2.1, h.2.2, h2⟩
  unfold Tkt.av at my
  repeat' (first | simp only [go_sem, Nat.reduceLT, Nat.reduceEqDiff, Nat.reduceAdd, Nat.reduceMul, Nat.reduceSub, Nat.reduceLeDiff, Int.reduceToNat, Int.reduceNeg, Int.reduceLT, Int.reduceLE, Int.reduceEq, reduceCtorEq, Int.natCast_zero, Int.natCast_one, Int.cast_ofNat_Int, Bool.not_not, false_eq_decide, true_eq_decide, hread0, hreadk, read_cons0, read_consk, astore_h0, astore_hk, hget0, hgetk, hset0, hsetk, hlen, hcat, Nat.add_assoc, Nat.add_zero, Nat.zero_add, List.length_append, and_true, true_and, AV.flat, g1, get_app g1, read_get g1, read_app g1, *, -hK, -hb2, -hlt, -hgood, -n1, -n2, -n3, -n4, -kJ, -hl1, -hl2, -hl256, -hlz, -hpre, -hge, -hq1, -hq2, -hno, -back2, -my, -hwiff, -hlast, -e5, -hlg, -hok] | with_reducible refine IfB_dec (fun h => ?_) (fun h => ?_) | with_reducible refine Guard_dec (fun h => ?_) (fun h => ?_) | with_reducible refine Guard_ndec (fun h => ?_) (fun h => ?_) | with_reducible refine Guard_not (fun h => ?_) (fun h => ?_) | with_reducible refine IfB_ndec (fun h => ?_) (fun h => ?_) | with_reducible refine IfB_not (fun h => ?_) (fun h => ?_) | with_reducible refine Guard_split (fun h => ?_) (fun h => ?_) | with_reducible refine IfB_split (fun h => ?_) (fun h => ?_))
  have kt : Keep none H (J2 ++ [(⟨[.int .i64 t.num, .int .u8 t.kind, .int .u8 t.cmd.kind, .int .i64 t.cmd.ten, Enc.str.lst t.cmd.keys, .str t.cmd.val, .int .u32 t.cmd.flags, .int .i64 t.cmd.for_, .int .u64 t.cmd.uniq, .int .u64 t.cmd.by_, .int .i64 t.ten, .int .i64 t.to], 0, .full⟩ : Blk)]) := kJ.trans (Keep.app _ _ _)
  replace g1 := get_app g1 [(⟨[.int .i64 t.num, .int .u8 t.kind, .int .u8 t.cmd.kind, .int .i64 t.cmd.ten, Enc.str.lst t.cmd.keys, .str t.cmd.val, .int .u32 t.cmd.flags, .int .i64 t.cmd.for_, .int .u64 t.cmd.uniq, .int .u64 t.cmd.by_, .int .i64 t.ten, .int .i64 t.to], 0, .full⟩ : Blk)]
  have gt : (J2 ++ [(⟨[.int .i64 t.num, .int .u8 t.kind, .int .u8 t.cmd.kind, .int .i64 t.cmd.ten, Enc.str.lst t.cmd.keys, .str t.cmd.val, .int .u32 t.cmd.flags, .int .i64 t.cmd.for_, .int .u64 t.cmd.uniq, .int .u64 t.cmd.by_, .int .i64 t.ten, .int .i64 t.to], 0, .full⟩ : Blk)])[J2.length]? = some ⟨[.int .i64 t.num, .int .u8 t.kind, .int .u8 t.cmd.kind, .int .i64 t.cmd.ten, Enc.str.lst t.cmd.keys, .str t.cmd.val, .int .u32 t.cmd.flags, .int .i64 t.cmd.for_, .int .u64 t.cmd.uniq, .int .u64 t.cmd.by_, .int .i64 t.ten, .int .i64 t.to], 0, .full⟩ := by simp
  generalize (J2 ++ [(⟨[.int .i64 t.num, .int .u8 t.kind, .int .u8 t.cmd.kind, .int .i64 t.cmd.ten, Enc.str.lst t.cmd.keys, .str t.cmd.val, .int .u32 t.cmd.flags, .int .i64 t.cmd.for_, .int .u64 t.cmd.uniq, .int .u64 t.cmd.by_, .int .i64 t.ten, .int .i64 t.to], 0, .full⟩ : Blk)] : Heap) = Jt at *
  generalize J2.length = tb at *
  clear hlg
  cases hmay : t.mayB with
  | false =>
    rw [hmay] at my
    rw [decide_eq_false (hno (fun ho => by unfold okT at ho; rw [hmay] at ho; cases ho.1))] at hK
    clear hno hok back2
    refine WX_rows hT hmix [(0, none), (1, some [true]), (2, none), (3, none), (4, none), (5, none), (6, none), (7, none), (8, none), (9, none), (10, none), (11, none), (12, none), (13, none), (14, none), (15, none), (16, none), (17, none), (18, none), (19, none), (20, none), (21, none), (22, none), (23, none), (24, none), (25, none), (26, none), (27, none), (28, none), (29, none), (30, none), (31, none), (32, none), (33, none)] (by kernel_rfl) ?_
    simp only [List.append_eq, List.cons_append, List.nil_append]
    repeat' (first | simp only [go_sem, Nat.reduceLT, Nat.reduceEqDiff, Nat.reduceAdd, Nat.reduceMul, Nat.reduceSub, Nat.reduceLeDiff, Int.reduceToNat, Int.reduceNeg, Int.reduceLT, Int.reduceLE, Int.reduceEq, reduceCtorEq, Int.natCast_zero, Int.natCast_one, Int.cast_ofNat_Int, Bool.not_not, false_eq_decide, true_eq_decide, hread0, hreadk, read_cons0, read_consk, astore_h0, astore_hk, hget0, hgetk, hset0, hsetk, hlen, hcat, Nat.add_assoc, Nat.add_zero, Nat.zero_add, List.length_append, and_true, true_and, AV.flat, g1, get_app g1, read_get g1, read_app g1, gt, get_app gt, read_get gt, read_app gt, *, -hK, -kt, -hb2, -hlt, -hlz, -hl1, -hl2, -n1, -n2, -n3, -n4, -hq1, -hq2, -my, -kJ, -hge, -hl256, -hpre, -hwiff, -hgood, -hlast, -e5, -hmay] | refine WC.call (my _) ?_ | with_reducible refine IfB_dec (fun h => ?_) (fun h => ?_) | with_reducible refine Guard_dec (fun h => ?_) (fun h => ?_) | with_reducible refine Guard_ndec (fun h => ?_) (fun h => ?_) | with_reducible refine Guard_not (fun h => ?_) (fun h => ?_) | with_reducible refine IfB_ndec (fun h => ?_) (fun h => ?_) | with_reducible refine IfB_not (fun h => ?_) (fun h => ?_) | with_reducible refine Guard_split (fun h => ?_) (fun h => ?_) | with_reducible refine IfB_split (fun h => ?_) (fun h => ?_))
    exact hK _ _ (.bool _) kt
  | true =>
  rw [hmay] at my
  by_cases c1 : t.num < 0
  · skip
    rw [decide_eq_false (hno (fun ho => by unfold okT at ho; have := ho.2.1; omega))] at hK
    clear hno hok back2
    refine WX_rows hT hmix [(0, none), (1, some [true]), (2, none), (3, none), (4, none), (5, none), (6, none), (7, none), (8, none), (9, none), (10, none), (11, none), (12, none), (13, none), (14, none), (15, none), (16, none), (17, none), (18, none), (19, none), (20, none), (21, none), (22, none), (23, none), (24, none), (25, none), (26, none), (27, none), (28, none), (29, none), (30, none), (31, none), (32, none), (33, none)] (by kernel_rfl) ?_
    simp only [List.append_eq, List.cons_append, List.nil_append]
    repeat' (first | simp only [go_sem, Nat.reduceLT, Nat.reduceEqDiff, Nat.reduceAdd, Nat.reduceMul, Nat.reduceSub, Nat.reduceLeDiff, Int.reduceToNat, Int.reduceNeg, Int.reduceLT, Int.reduceLE, Int.reduceEq, reduceCtorEq, Int.natCast_zero, Int.natCast_one, Int.cast_ofNat_Int, Bool.not_not, false_eq_decide, true_eq_decide, hread0, hreadk, read_cons0, read_consk, astore_h0, astore_hk, hget0, hgetk, hset0, hsetk, hlen, hcat, Nat.add_assoc, Nat.add_zero, Nat.zero_add, List.length_append, and_true, true_and, AV.flat, g1, get_app g1, read_get g1, read_app g1, gt, get_app gt, read_get gt, read_app gt, *, -hK, -kt, -hb2, -hlt, -hlz, -hl1, -hl2, -n1, -n2, -n3, -n4, -hq1, -hq2, -my, -kJ, -hge, -hl256, -hpre, -hwiff, -hgood, -hlast, -e5, -hmay] | refine WC.call (my _) ?_ | with_reducible refine IfB_dec (fun h => ?_) (fun h => ?_) | with_reducible refine Guard_dec (fun h => ?_) (fun h => ?_) | with_reducible refine Guard_ndec (fun h => ?_) (fun h => ?_) | with_reducible refine Guard_not (fun h => ?_) (fun h => ?_) | with_reducible refine IfB_ndec (fun h => ?_) (fun h => ?_) | with_reducible refine IfB_not (fun h => ?_) (fun h => ?_) | with_reducible refine Guard_split (fun h => ?_) (fun h => ?_) | with_reducible refine IfB_split (fun h => ?_) (fun h => ?_))
    exact hK _ _ (.bool _) kt
  by_cases c2 : t.num ≥ nx
  · skip
    rw [decide_eq_false (hno (fun ho => by unfold okT at ho; have := ho.2.2.1; omega))] at hK
    clear hno hok back2
    refine WX_rows hT hmix [(0, none), (1, some [true]), (2, none), (3, none), (4, none), (5, none), (6, none), (7, none), (8, none), (9, none), (10, none), (11, none), (12, none), (13, none), (14, none), (15, none), (16, none), (17, none), (18, none), (19, none), (20, none), (21, none), (22, none), (23, none), (24, none), (25, none), (26, none), (27, none), (28, none), (29, none), (30, none), (31, none), (32, none), (33, none)] (by kernel_rfl) ?_
    simp only [List.append_eq, List.cons_append, List.nil_append]
    repeat' (first | simp only [go_sem, Nat.reduceLT, Nat.reduceEqDiff, Nat.reduceAdd, Nat.reduceMul, Nat.reduceSub, Nat.reduceLeDiff, Int.reduceToNat, Int.reduceNeg, Int.reduceLT, Int.reduceLE, Int.reduceEq, reduceCtorEq, Int.natCast_zero, Int.natCast_one, Int.cast_ofNat_Int, Bool.not_not, false_eq_decide, true_eq_decide, hread0, hreadk, read_cons0, read_consk, astore_h0, astore_hk, hget0, hgetk, hset0, hsetk, hlen, hcat, Nat.add_assoc, Nat.add_zero, Nat.zero_add, List.length_append, and_true, true_and, AV.flat, g1, get_app g1, read_get g1, read_app g1, gt, get_app gt, read_get gt, read_app gt, *, -hK, -kt, -hb2, -hlt, -hlz, -hl1, -hl2, -n1, -n2, -n3, -n4, -hq1, -hq2, -my, -kJ, -hge, -hl256, -hpre, -hwiff, -hgood, -hlast, -e5, -hmay] | refine WC.call (my _) ?_ | with_reducible refine IfB_dec (fun h => ?_) (fun h => ?_) | with_reducible refine Guard_dec (fun h => ?_) (fun h => ?_) | with_reducible refine Guard_ndec (fun h => ?_) (fun h => ?_) | with_reducible refine Guard_not (fun h => ?_) (fun h => ?_) | with_reducible refine IfB_ndec (fun h => ?_) (fun h => ?_) | with_reducible refine IfB_not (fun h => ?_) (fun h => ?_) | with_reducible refine Guard_split (fun h => ?_) (fun h => ?_) | with_reducible refine IfB_split (fun h => ?_) (fun h => ?_))
    exact hK _ _ (.bool _) kt
  rcases hlast with ⟨hk0, hlg⟩ | ⟨p, hp, hkp, hlg⟩
  · have k0 : ¬ (k : Int) > 0 := by omega
    clear e5
    have hno2 : whereL bs t ≠ shardsL t bs.length → ¬ (⟨nx, bs⟩ : Que).may := fun h => hno fun ho => h ho.2.2.2
    replace back2 := fun h => back2 (hok ⟨hmay, by omega, by omega⟩ h)
    clear hno hok
    refine WX_rows hT hmix [(0, none), (1, some [true]), (2, none), (3, none), (4, none), (5, none), (6, none), (7, none), (8, none), (9, none), (10, none), (11, none), (12, none), (13, none), (14, none), (15, none), (16, none), (17, none), (18, none), (19, none), (20, none), (21, none), (22, none), (23, none), (24, none), (25, none), (26, none), (27, none), (28, none), (29, none), (30, none), (31, none), (32, none), (33, none)] (by kernel_rfl) ?_
    simp only [List.append_eq, List.cons_append, List.nil_append]
    repeat' (first | simp only [go_sem, Nat.reduceLT, Nat.reduceEqDiff, Nat.reduceAdd, Nat.reduceMul, Nat.reduceSub, Nat.reduceLeDiff, Int.reduceToNat, Int.reduceNeg, Int.reduceLT, Int.reduceLE, Int.reduceEq, reduceCtorEq, Int.natCast_zero, Int.natCast_one, Int.cast_ofNat_Int, Bool.not_not, false_eq_decide, true_eq_decide, hread0, hreadk, read_cons0, read_consk, astore_h0, astore_hk, hget0, hgetk, hset0, hsetk, hlen, hcat, Nat.add_assoc, Nat.add_zero, Nat.zero_add, List.length_append, and_true, true_and, AV.flat, g1, get_app g1, read_get g1, read_app g1, gt, get_app gt, read_get gt, read_app gt, *, -hK, -kt, -hb2, -hlt, -hlz, -hl1, -hl2, -n1, -n2, -n3, -n4, -hq1, -hq2, -my, -kJ, -hge, -hl256, -hpre, -hwiff, -hgood, -hno2, -back2, -hmay, -hk0, -hlg] | refine WC.call (my _) ?_ | with_reducible refine IfB_dec (fun h => ?_) (fun h => ?_) | with_reducible refine Guard_dec (fun h => ?_) (fun h => ?_) | with_reducible refine Guard_ndec (fun h => ?_) (fun h => ?_) | with_reducible refine Guard_not (fun h => ?_) (fun h => ?_) | with_reducible refine IfB_ndec (fun h => ?_) (fun h => ?_) | with_reducible refine IfB_not (fun h => ?_) (fun h => ?_) | with_reducible refine Guard_split (fun h => ?_) (fun h => ?_) | with_reducible refine IfB_split (fun h => ?_) (fun h => ?_))
    have hA1 := hA
    have o1 := s1
    have o3 := s3
    have o4 := s4
    refine WX_loopS [1, 3, 4, 5, 6] (fun kn fr3 J3 => ∃ s : Nat, kn = bs.length - s ∧ s ≤ bs.length ∧ fr3.get 7 = .int .i64 s ∧ J3 = Jt ∧ (∀ s' : Nat, s' < s → decide (t ∈ bs[s']?.getD []) = decide ((s' : Int) ∈ shardsL t bs.length)) ∧ A fr3 ∧ A2 fr3) bs.length ⟨0, rfl, by omega, by simp only [go_sem, Nat.reduceLT, Nat.reduceEqDiff, Nat.reduceAdd, Nat.reduceMul, Nat.reduceSub, Nat.reduceLeDiff, Int.reduceToNat, Int.reduceNeg, Int.reduceLT, Int.reduceLE, Int.reduceEq, reduceCtorEq]; rfl, rfl, fun s' h => by omega, by (repeat (first | exact hAf | refine hA0 _ _ _ (by decide) ?_)), by (repeat (first | exact hs | refine hA _ _ _ (by decide) ?_))⟩ ?_
    clear hg hs hA s1 s3 s4 my
    rintro kn fr3 J3 A3 R3 hA hs hg hR3 ⟨s, rfl, hsl, f7, hJ3, hpt, hAf, hAg⟩
    subst hJ3
    have s1 := hg 1 (by decide)
    have s3 := hg 3 (by decide)
    have s4 := hg 4 (by decide)
    have s5 := hg 5 (by decide)
    have s6 := hg 6 (by decide)
    simp only [Fr.get_put, Fr.get_init, List.getD_cons_zero, List.getD_cons_succ, Nat.reduceEqDiff, if_true, if_false] at s1 s3 s4 s5 s6
    rw [o1] at s1
    rw [o3] at s3
    rw [o4] at s4
    rw [f5] at s5
    clear o1 o3 o4
    refine wx_sound hT _ ?_
    by_cases hls : s < bs.length
    rotate_left
    · have i7 : ¬ (s : Int) < bs.length := by omega
      have hfin := back2 (hwiff.2 fun s' hs' => hpt s' (by omega))
      repeat' (first | simp only [go_sem, Nat.reduceLT, Nat.reduceEqDiff, Nat.reduceAdd, Nat.reduceMul, Nat.reduceSub, Nat.reduceLeDiff, Int.reduceToNat, Int.reduceNeg, Int.reduceLT, Int.reduceLE, Int.reduceEq, reduceCtorEq, Int.natCast_zero, Int.natCast_one, Int.cast_ofNat_Int, Bool.not_not, false_eq_decide, true_eq_decide, hread0, hreadk, read_cons0, read_consk, astore_h0, astore_hk, hget0, hgetk, hset0, hsetk, hlen, hcat, Nat.add_assoc, Nat.add_zero, Nat.zero_add, List.length_append, and_true, true_and, AV.flat, g1, get_app g1, read_get g1, read_app g1, gt, get_app gt, read_get gt, read_app gt, *, -hK, -kt, -hb2, -hlt, -hlz, -hl1, -hl2, -n1, -n2, -n3, -n4, -hq1, -hq2, -kJ, -hge, -hl256, -hpre, -hwiff, -hgood, -hno2, -back2, -hls, -hpt, -hfin, -hmay, -hk0, -hlg] | with_reducible refine IfB_dec (fun h => ?_) (fun h => ?_) | with_reducible refine Guard_dec (fun h => ?_) (fun h => ?_) | with_reducible refine Guard_ndec (fun h => ?_) (fun h => ?_) | with_reducible refine Guard_not (fun h => ?_) (fun h => ?_) | with_reducible refine IfB_ndec (fun h => ?_) (fun h => ?_) | with_reducible refine IfB_not (fun h => ?_) (fun h => ?_) | with_reducible refine Guard_split (fun h => ?_) (fun h => ?_) | with_reducible refine IfB_split (fun h => ?_) (fun h => ?_))
      exact hfin _ _ (by repeat (first | exact hAg | refine hA1 _ _ _ (by decide) ?_)) (by simp only [go_sem, Nat.reduceLT, Nat.reduceEqDiff, Nat.reduceAdd, Nat.reduceMul, Nat.reduceSub, Nat.reduceLeDiff, Int.reduceToNat, Int.reduceNeg, Int.reduceLT, Int.reduceLE, Int.reduceEq, reduceCtorEq]) kt g1 (by repeat (first | exact hAf | refine hA0 _ _ _ (by decide) ?_))
    have i7 : (s : Int) < bs.length := by omega
    have e6 := inc_id hls (by omega)
    have e8 := at_enc (E := boxE) (T := T) (k := .i64) se22 hls rfl
    rw [boxE_cells] at e8
    have hin : bs[s]?.getD [] = bs[s] := by rw [List.getElem?_eq_getElem hls]; rfl
    have hne : decide (t ∈ bs[s]) ≠ decide ((s : Int) ∈ shardsL t bs.length) → ¬ (⟨nx, bs⟩ : Que).may := fun h => hno2 fun hw => h (by have := hwiff.1 hw s hls; rw [hin] at this; exact this)
    have back3 : decide (t ∈ bs[s]) = decide ((s : Int) ∈ shardsL t bs.length) → ∀ fr4, A3 fr4 → fr4.get 7 = .int .i64 ((s + 1 : Nat) : Int) → A fr4 → A2 fr4 → R3 fr4 J3 := fun h fr4 ha q1 q2 q3 => hR3 fr4 J3 ha (bs.length - (s + 1)) (by omega) ⟨s + 1, rfl, by omega, q1, rfl, fun s' hs' => by
      by_cases e : s' = s
      · subst e; rw [hin]; exact h
      · exact hpt s' (by omega), q2, q3⟩
    have hbx := hb2 _ (List.getElem_mem hls)
    have stn := fun J => stands_spec bs[s] t (by have := hbx.1; omega) (fun x hx => (hbx.2 x hx).1) J
    have nds := fun J => need12_spec t s bs.length hmay n1 n2 hq1 hq2 J
    clear hR3 back2 hno2 hin hbx
    generalize bs[s] = ls at *
    unfold Tkt.av at stn nds
    generalize decide (t ∈ ls) = d1 at *
    generalize decide ((s : Int) ∈ shardsL t bs.length) = d2 at *
    by_cases hd : d1 = d2
    · replace back3 := back3 hd
      subst hd
      clear hne
      repeat' (first | simp only [go_sem, Nat.reduceLT, Nat.reduceEqDiff, Nat.reduceAdd, Nat.reduceMul, Nat.reduceSub, Nat.reduceLeDiff, Int.reduceToNat, Int.reduceNeg, Int.reduceLT, Int.reduceLE, Int.reduceEq, reduceCtorEq, Int.natCast_zero, Int.natCast_one, Int.cast_ofNat_Int, Bool.not_not, false_eq_decide, true_eq_decide, hread0, hreadk, read_cons0, read_consk, astore_h0, astore_hk, hget0, hgetk, hset0, hsetk, hlen, hcat, Nat.add_assoc, Nat.add_zero, Nat.zero_add, List.length_append, and_true, true_and, AV.flat, g1, get_app g1, read_get g1, read_app g1, gt, get_app gt, read_get gt, read_app gt, *, -hK, -kt, -hb2, -hlt, -hlz, -hl1, -hl2, -n1, -n2, -n3, -n4, -hq1, -hq2, -kJ, -hge, -hl256, -hpre, -hwiff, -hgood, -hls, -hpt, -back3, -stn, -nds, -hmay, -hk0, -hlg] | with_reducible refine IfB_dec (fun h => ?_) (fun h => ?_) | with_reducible refine Guard_dec (fun h => ?_) (fun h => ?_) | with_reducible refine Guard_ndec (fun h => ?_) (fun h => ?_) | with_reducible refine Guard_not (fun h => ?_) (fun h => ?_) | with_reducible refine IfB_ndec (fun h => ?_) (fun h => ?_) | with_reducible refine IfB_not (fun h => ?_) (fun h => ?_) | with_reducible refine Guard_split (fun h => ?_) (fun h => ?_) | with_reducible refine IfB_split (fun h => ?_) (fun h => ?_))
      refine WX_rows hT hmix [(0, none), (1, none), (2, none), (3, none), (4, none), (5, none), (7, none), (8, none), (9, none), (6, some [false, false, false, true, true, true, true, true, true]), (10, some [true, true, true, true, true, true, true, true, true, true]), (11, none)] (by kernel_rfl) ?_
      repeat' (first | simp only [go_sem, Nat.reduceLT, Nat.reduceEqDiff, Nat.reduceAdd, Nat.reduceMul, Nat.reduceSub, Nat.reduceLeDiff, Int.reduceToNat, Int.reduceNeg, Int.reduceLT, Int.reduceLE, Int.reduceEq, reduceCtorEq, Int.natCast_zero, Int.natCast_one, Int.cast_ofNat_Int, Bool.not_not, false_eq_decide, true_eq_decide, hread0, hreadk, read_cons0, read_consk, astore_h0, astore_hk, hget0, hgetk, hset0, hsetk, hlen, hcat, Nat.add_assoc, Nat.add_zero, Nat.zero_add, List.length_append, and_true, true_and, AV.flat, g1, get_app g1, read_get g1, read_app g1, gt, get_app gt, read_get gt, read_app gt, *, -hK, -kt, -hb2, -hlt, -hlz, -hl1, -hl2, -n1, -n2, -n3, -n4, -hq1, -hq2, -kJ, -hge, -hl256, -hpre, -hwiff, -hgood, -hls, -hpt, -back3, -stn, -nds, -hmay, -hk0, -hlg] | refine WC.call (stn _) ?_ | refine WC.call (nds _) ?_ | with_reducible refine IfB_dec (fun h => ?_) (fun h => ?_) | with_reducible refine Guard_dec (fun h => ?_) (fun h => ?_) | with_reducible refine Guard_ndec (fun h => ?_) (fun h => ?_) | with_reducible refine Guard_not (fun h => ?_) (fun h => ?_) | with_reducible refine IfB_ndec (fun h => ?_) (fun h => ?_) | with_reducible refine IfB_not (fun h => ?_) (fun h => ?_) | with_reducible refine Guard_split (fun h => ?_) (fun h => ?_) | with_reducible refine IfB_split (fun h => ?_) (fun h => ?_))
      exact back3 _ (by (repeat (first | exact hs | refine hA _ _ _ (by decide) ?_))) (by simp only [go_sem, Nat.reduceLT, Nat.reduceEqDiff, Nat.reduceAdd, Nat.reduceMul, Nat.reduceSub, Nat.reduceLeDiff, Int.reduceToNat, Int.reduceNeg, Int.reduceLT, Int.reduceLE, Int.reduceEq, reduceCtorEq]) (by repeat (first | exact hAf | refine hA0 _ _ _ (by decide) ?_)) (by repeat (first | exact hAg | refine hA1 _ _ _ (by decide) ?_))
    · rw [decide_eq_false (hne hd)] at hK
      clear hne back3
      repeat' (first | simp only [go_sem, Nat.reduceLT, Nat.reduceEqDiff, Nat.reduceAdd, Nat.reduceMul, Nat.reduceSub, Nat.reduceLeDiff, Int.reduceToNat, Int.reduceNeg, Int.reduceLT, Int.reduceLE, Int.reduceEq, reduceCtorEq, Int.natCast_zero, Int.natCast_one, Int.cast_ofNat_Int, Bool.not_not, false_eq_decide, true_eq_decide, hread0, hreadk, read_cons0, read_consk, astore_h0, astore_hk, hget0, hgetk, hset0, hsetk, hlen, hcat, Nat.add_assoc, Nat.add_zero, Nat.zero_add, List.length_append, and_true, true_and, AV.flat, g1, get_app g1, read_get g1, read_app g1, gt, get_app gt, read_get gt, read_app gt, *, -hK, -kt, -hb2, -hlt, -hlz, -hl1, -hl2, -n1, -n2, -n3, -n4, -hq1, -hq2, -kJ, -hge, -hl256, -hpre, -hwiff, -hgood, -hls, -hpt, -stn, -nds, -hd, -hmay, -hk0, -hlg] | with_reducible refine IfB_dec (fun h => ?_) (fun h => ?_) | with_reducible refine Guard_dec (fun h => ?_) (fun h => ?_) | with_reducible refine Guard_ndec (fun h => ?_) (fun h => ?_) | with_reducible refine Guard_not (fun h => ?_) (fun h => ?_) | with_reducible refine IfB_ndec (fun h => ?_) (fun h => ?_) | with_reducible refine IfB_not (fun h => ?_) (fun h => ?_) | with_reducible refine Guard_split (fun h => ?_) (fun h => ?_) | with_reducible refine IfB_split (fun h => ?_) (fun h => ?_))
      refine WX_rows hT hmix [(0, none), (1, none), (2, none), (3, none), (4, none), (5, none), (7, none), (8, none), (9, none), (6, some [false, false, false, true, true, true, true, true, true]), (10, some [true, true, true, true, true, true, true, true, true, true]), (11, none)] (by kernel_rfl) ?_
      cases d1 <;> cases d2 <;> first | exact absurd rfl hd | skip
      all_goals
        clear hd
        repeat' (first | simp only [go_sem, Nat.reduceLT, Nat.reduceEqDiff, Nat.reduceAdd, Nat.reduceMul, Nat.reduceSub, Nat.reduceLeDiff, Int.reduceToNat, Int.reduceNeg, Int.reduceLT, Int.reduceLE, Int.reduceEq, reduceCtorEq, Int.natCast_zero, Int.natCast_one, Int.cast_ofNat_Int, Bool.not_not, false_eq_decide, true_eq_decide, hread0, hreadk, read_cons0, read_consk, astore_h0, astore_hk, hget0, hgetk, hset0, hsetk, hlen, hcat, Nat.add_assoc, Nat.add_zero, Nat.zero_add, List.length_append, and_true, true_and, AV.flat, g1, get_app g1, read_get g1, read_app g1, gt, get_app gt, read_get gt, read_app gt, *, -hK, -kt, -hb2, -hlt, -hlz, -hl1, -hl2, -n1, -n2, -n3, -n4, -hq1, -hq2, -kJ, -hge, -hl256, -hpre, -hwiff, -hgood, -hls, -hpt, -stn, -nds, -hmay, -hk0, -hlg] | refine WC.call (stn _) ?_ | refine WC.call (nds _) ?_ | with_reducible refine IfB_dec (fun h => ?_) (fun h => ?_) | with_reducible refine Guard_dec (fun h => ?_) (fun h => ?_) | with_reducible refine Guard_ndec (fun h => ?_) (fun h => ?_) | with_reducible refine Guard_not (fun h => ?_) (fun h => ?_) | with_reducible refine IfB_ndec (fun h => ?_) (fun h => ?_) | with_reducible refine IfB_not (fun h => ?_) (fun h => ?_) | with_reducible refine Guard_split (fun h => ?_) (fun h => ?_) | with_reducible refine IfB_split (fun h => ?_) (fun h => ?_))
        exact hK _ _ (.bool _) kt
  · have k0 : (k : Int) > 0 := by omega
    have wk : IntKind.i64.wrap ((k : Int) - 1) = ((p : Nat) : Int) := by rw [IntKind.wrap_i64]; omega
    have e7 := e5 p hp
    rw [tktE_cells] at e7
    clear e5
    generalize l[p] = tp at *
    by_cases c3 : t.num ≤ tp.num
    · skip
      rw [decide_eq_false (hno (fun ho => by unfold okT at ho; have := ho.2.1; omega))] at hK
      clear hno hok back2
      refine WX_rows hT hmix [(0, none), (1, some [true]), (2, none), (3, none), (4, none), (5, none), (6, none), (7, none), (8, none), (9, none), (10, none), (11, none), (12, none), (13, none), (14, none), (15, none), (16, none), (17, none), (18, none), (19, none), (20, none), (21, none), (22, none), (23, none), (24, none), (25, none), (26, none), (27, none), (28, none), (29, none), (30, none), (31, none), (32, none), (33, none)] (by kernel_rfl) ?_
      simp only [List.append_eq, List.cons_append, List.nil_append]
      repeat' (first | simp only [go_sem, Nat.reduceLT, Nat.reduceEqDiff, Nat.reduceAdd, Nat.reduceMul, Nat.reduceSub, Nat.reduceLeDiff, Int.reduceToNat, Int.reduceNeg, Int.reduceLT, Int.reduceLE, Int.reduceEq, reduceCtorEq, Int.natCast_zero, Int.natCast_one, Int.cast_ofNat_Int, Bool.not_not, false_eq_decide, true_eq_decide, hread0, hreadk, read_cons0, read_consk, astore_h0, astore_hk, hget0, hgetk, hset0, hsetk, hlen, hcat, Nat.add_assoc, Nat.add_zero, Nat.zero_add, List.length_append, and_true, true_and, AV.flat, g1, get_app g1, read_get g1, read_app g1, gt, get_app gt, read_get gt, read_app gt, *, -hK, -kt, -hb2, -hlt, -hlz, -hl1, -hl2, -n1, -n2, -n3, -n4, -hq1, -hq2, -my, -kJ, -hge, -hl256, -hpre, -hwiff, -hgood, -hmay, -hkp, -hlg, -hp] | refine WC.call (my _) ?_ | with_reducible refine IfB_dec (fun h => ?_) (fun h => ?_) | with_reducible refine Guard_dec (fun h => ?_) (fun h => ?_) | with_reducible refine Guard_ndec (fun h => ?_) (fun h => ?_) | with_reducible refine Guard_not (fun h => ?_) (fun h => ?_) | with_reducible refine IfB_ndec (fun h => ?_) (fun h => ?_) | with_reducible refine IfB_not (fun h => ?_) (fun h => ?_) | with_reducible refine Guard_split (fun h => ?_) (fun h => ?_) | with_reducible refine IfB_split (fun h => ?_) (fun h => ?_))
      exact hK _ _ (.bool _) kt
    · skip
      have hno2 : whereL bs t ≠ shardsL t bs.length → ¬ (⟨nx, bs⟩ : Que).may := fun h => hno fun ho => h ho.2.2.2
      replace back2 := fun h => back2 (hok ⟨hmay, by omega, by omega⟩ h)
      clear hno hok
      refine WX_rows hT hmix [(0, none), (1, some [true]), (2, none), (3, none), (4, none), (5, none), (6, none), (7, none), (8, none), (9, none), (10, none), (11, none), (12, none), (13, none), (14, none), (15, none), (16, none), (17, none), (18, none), (19, none), (20, none), (21, none), (22, none), (23, none), (24, none), (25, none), (26, none), (27, none), (28, none), (29, none), (30, none), (31, none), (32, none), (33, none)] (by kernel_rfl) ?_
      simp only [List.append_eq, List.cons_append, List.nil_append]
      repeat' (first | simp only [go_sem, Nat.reduceLT, Nat.reduceEqDiff, Nat.reduceAdd, Nat.reduceMul, Nat.reduceSub, Nat.reduceLeDiff, Int.reduceToNat, Int.reduceNeg, Int.reduceLT, Int.reduceLE, Int.reduceEq, reduceCtorEq, Int.natCast_zero, Int.natCast_one, Int.cast_ofNat_Int, Bool.not_not, false_eq_decide, true_eq_decide, hread0, hreadk, read_cons0, read_consk, astore_h0, astore_hk, hget0, hgetk, hset0, hsetk, hlen, hcat, Nat.add_assoc, Nat.add_zero, Nat.zero_add, List.length_append, and_true, true_and, AV.flat, g1, get_app g1, read_get g1, read_app g1, gt, get_app gt, read_get gt, read_app gt, *, -hK, -kt, -hb2, -hlt, -hlz, -hl1, -hl2, -n1, -n2, -n3, -n4, -hq1, -hq2, -my, -kJ, -hge, -hl256, -hpre, -hwiff, -hgood, -hno2, -back2, -hmay, -hkp, -hlg, -hp] | refine WC.call (my _) ?_ | with_reducible refine IfB_dec (fun h => ?_) (fun h => ?_) | with_reducible refine Guard_dec (fun h => ?_) (fun h => ?_) | with_reducible refine Guard_ndec (fun h => ?_) (fun h => ?_) | with_reducible refine Guard_not (fun h => ?_) (fun h => ?_) | with_reducible refine IfB_ndec (fun h => ?_) (fun h => ?_) | with_reducible refine IfB_not (fun h => ?_) (fun h => ?_) | with_reducible refine Guard_split (fun h => ?_) (fun h => ?_) | with_reducible refine IfB_split (fun h => ?_) (fun h => ?_))
      have hA1 := hA
      have o1 := s1
      have o3 := s3
      have o4 := s4
      refine WX_loopS [1, 3, 4, 5, 6] (fun kn fr3 J3 => ∃ s : Nat, kn = bs.length - s ∧ s ≤ bs.length ∧ fr3.get 7 = .int .i64 s ∧ J3 = Jt ∧ (∀ s' : Nat, s' < s → decide (t ∈ bs[s']?.getD []) = decide ((s' : Int) ∈ shardsL t bs.length)) ∧ A fr3 ∧ A2 fr3) bs.length ⟨0, rfl, by omega, by simp only [go_sem, Nat.reduceLT, Nat.reduceEqDiff, Nat.reduceAdd, Nat.reduceMul, Nat.reduceSub, Nat.reduceLeDiff, Int.reduceToNat, Int.reduceNeg, Int.reduceLT, Int.reduceLE, Int.reduceEq, reduceCtorEq]; rfl, rfl, fun s' h => by omega, by (repeat (first | exact hAf | refine hA0 _ _ _ (by decide) ?_)), by (repeat (first | exact hs | refine hA _ _ _ (by decide) ?_))⟩ ?_
      clear hg hs hA s1 s3 s4 my
      rintro kn fr3 J3 A3 R3 hA hs hg hR3 ⟨s, rfl, hsl, f7, hJ3, hpt, hAf, hAg⟩
      subst hJ3
      have s1 := hg 1 (by decide)
      have s3 := hg 3 (by decide)
      have s4 := hg 4 (by decide)
      have s5 := hg 5 (by decide)
      have s6 := hg 6 (by decide)
      simp only [Fr.get_put, Fr.get_init, List.getD_cons_zero, List.getD_cons_succ, Nat.reduceEqDiff, if_true, if_false] at s1 s3 s4 s5 s6
      rw [o1] at s1
      rw [o3] at s3
      rw [o4] at s4
      rw [f5] at s5
      clear o1 o3 o4
      refine wx_sound hT _ ?_
      by_cases hls : s < bs.length
      rotate_left
      · have i7 : ¬ (s : Int) < bs.length := by omega
        have hfin := back2 (hwiff.2 fun s' hs' => hpt s' (by omega))
        repeat' (first | simp only [go_sem, Nat.reduceLT, Nat.reduceEqDiff, Nat.reduceAdd, Nat.reduceMul, Nat.reduceSub, Nat.reduceLeDiff, Int.reduceToNat, Int.reduceNeg, Int.reduceLT, Int.reduceLE, Int.reduceEq, reduceCtorEq, Int.natCast_zero, Int.natCast_one, Int.cast_ofNat_Int, Bool.not_not, false_eq_decide, true_eq_decide, hread0, hreadk, read_cons0, read_consk, astore_h0, astore_hk, hget0, hgetk, hset0, hsetk, hlen, hcat, Nat.add_assoc, Nat.add_zero, Nat.zero_add, List.length_append, and_true, true_and, AV.flat, g1, get_app g1, read_get g1, read_app g1, gt, get_app gt, read_get gt, read_app gt, *, -hK, -kt, -hb2, -hlt, -hlz, -hl1, -hl2, -n1, -n2, -n3, -n4, -hq1, -hq2, -kJ, -hge, -hl256, -hpre, -hwiff, -hgood, -hno2, -back2, -hls, -hpt, -hfin, -hmay, -hkp, -hlg, -hp] | with_reducible refine IfB_dec (fun h => ?_) (fun h => ?_) | with_reducible refine Guard_dec (fun h => ?_) (fun h => ?_) | with_reducible refine Guard_ndec (fun h => ?_) (fun h => ?_) | with_reducible refine Guard_not (fun h => ?_) (fun h => ?_) | with_reducible refine IfB_ndec (fun h => ?_) (fun h => ?_) | with_reducible refine IfB_not (fun h => ?_) (fun h => ?_) | with_reducible refine Guard_split (fun h => ?_) (fun h => ?_) | with_reducible refine IfB_split (fun h => ?_) (fun h => ?_))
        exact hfin _ _ (by repeat (first | exact hAg | refine hA1 _ _ _ (by decide) ?_)) (by simp only [go_sem, Nat.reduceLT, Nat.reduceEqDiff, Nat.reduceAdd, Nat.reduceMul, Nat.reduceSub, Nat.reduceLeDiff, Int.reduceToNat, Int.reduceNeg, Int.reduceLT, Int.reduceLE, Int.reduceEq, reduceCtorEq]) kt g1 (by repeat (first | exact hAf | refine hA0 _ _ _ (by decide) ?_))
      have i7 : (s : Int) < bs.length := by omega
      have e6 := inc_id hls (by omega)
      have e8 := at_enc (E := boxE) (T := T) (k := .i64) se22 hls rfl
      rw [boxE_cells] at e8
      have hin : bs[s]?.getD [] = bs[s] := by rw [List.getElem?_eq_getElem hls]; rfl
      have hne : decide (t ∈ bs[s]) ≠ decide ((s : Int) ∈ shardsL t bs.length) → ¬ (⟨nx, bs⟩ : Que).may := fun h => hno2 fun hw => h (by have := hwiff.1 hw s hls; rw [hin] at this; exact this)
      have back3 : decide (t ∈ bs[s]) = decide ((s : Int) ∈ shardsL t bs.length) → ∀ fr4, A3 fr4 → fr4.get 7 = .int .i64 ((s + 1 : Nat) : Int) → A fr4 → A2 fr4 → R3 fr4 J3 := fun h fr4 ha q1 q2 q3 => hR3 fr4 J3 ha (bs.length - (s + 1)) (by omega) ⟨s + 1, rfl, by omega, q1, rfl, fun s' hs' => by
        by_cases e : s' = s
        · subst e; rw [hin]; exact h
        · exact hpt s' (by omega), q2, q3⟩
      have hbx := hb2 _ (List.getElem_mem hls)
      have stn := fun J => stands_spec bs[s] t (by have := hbx.1; omega) (fun x hx => (hbx.2 x hx).1) J
      have nds := fun J => need12_spec t s bs.length hmay n1 n2 hq1 hq2 J
      clear hR3 back2 hno2 hin hbx
      generalize bs[s] = ls at *
      unfold Tkt.av at stn nds
      generalize decide (t ∈ ls) = d1 at *
      generalize decide ((s : Int) ∈ shardsL t bs.length) = d2 at *
      by_cases hd : d1 = d2
      · replace back3 := back3 hd
        subst hd
        clear hne
        repeat' (first | simp only [go_sem, Nat.reduceLT, Nat.reduceEqDiff, Nat.reduceAdd, Nat.reduceMul, Nat.reduceSub, Nat.reduceLeDiff, Int.reduceToNat, Int.reduceNeg, Int.reduceLT, Int.reduceLE, Int.reduceEq, reduceCtorEq, Int.natCast_zero, Int.natCast_one, Int.cast_ofNat_Int, Bool.not_not, false_eq_decide, true_eq_decide, hread0, hreadk, read_cons0, read_consk, astore_h0, astore_hk, hget0, hgetk, hset0, hsetk, hlen, hcat, Nat.add_assoc, Nat.add_zero, Nat.zero_add, List.length_append, and_true, true_and, AV.flat, g1, get_app g1, read_get g1, read_app g1, gt, get_app gt, read_get gt, read_app gt, *, -hK, -kt, -hb2, -hlt, -hlz, -hl1, -hl2, -n1, -n2, -n3, -n4, -hq1, -hq2, -kJ, -hge, -hl256, -hpre, -hwiff, -hgood, -hls, -hpt, -back3, -stn, -nds, -hmay, -hkp, -hlg, -hp] | with_reducible refine IfB_dec (fun h => ?_) (fun h => ?_) | with_reducible refine Guard_dec (fun h => ?_) (fun h => ?_) | with_reducible refine Guard_ndec (fun h => ?_) (fun h => ?_) | with_reducible refine Guard_not (fun h => ?_) (fun h => ?_) | with_reducible refine IfB_ndec (fun h => ?_) (fun h => ?_) | with_reducible refine IfB_not (fun h => ?_) (fun h => ?_) | with_reducible refine Guard_split (fun h => ?_) (fun h => ?_) | with_reducible refine IfB_split (fun h => ?_) (fun h => ?_))
        refine WX_rows hT hmix [(0, none), (1, none), (2, none), (3, none), (4, none), (5, none), (7, none), (8, none), (9, none), (6, some [false, false, false, true, true, true, true, true, true]), (10, some [true, true, true, true, true, true, true, true, true, true]), (11, none)] (by kernel_rfl) ?_
        repeat' (first | simp only [go_sem, Nat.reduceLT, Nat.reduceEqDiff, Nat.reduceAdd, Nat.reduceMul, Nat.reduceSub, Nat.reduceLeDiff, Int.reduceToNat, Int.reduceNeg, Int.reduceLT, Int.reduceLE, Int.reduceEq, reduceCtorEq, Int.natCast_zero, Int.natCast_one, Int.cast_ofNat_Int, Bool.not_not, false_eq_decide, true_eq_decide, hread0, hreadk, read_cons0, read_consk, astore_h0, astore_hk, hget0, hgetk, hset0, hsetk, hlen, hcat, Nat.add_assoc, Nat.add_zero, Nat.zero_add, List.length_append, and_true, true_and, AV.flat, g1, get_app g1, read_get g1, read_app g1, gt, get_app gt, read_get gt, read_app gt, *, -hK, -kt, -hb2, -hlt, -hlz, -hl1, -hl2, -n1, -n2, -n3, -n4, -hq1, -hq2, -kJ, -hge, -hl256, -hpre, -hwiff, -hgood, -hls, -hpt, -back3, -stn, -nds, -hmay, -hkp, -hlg, -hp] | refine WC.call (stn _) ?_ | refine WC.call (nds _) ?_ | with_reducible refine IfB_dec (fun h => ?_) (fun h => ?_) | with_reducible refine Guard_dec (fun h => ?_) (fun h => ?_) | with_reducible refine Guard_ndec (fun h => ?_) (fun h => ?_) | with_reducible refine Guard_not (fun h => ?_) (fun h => ?_) | with_reducible refine IfB_ndec (fun h => ?_) (fun h => ?_) | with_reducible refine IfB_not (fun h => ?_) (fun h => ?_) | with_reducible refine Guard_split (fun h => ?_) (fun h => ?_) | with_reducible refine IfB_split (fun h => ?_) (fun h => ?_))
        exact back3 _ (by (repeat (first | exact hs | refine hA _ _ _ (by decide) ?_))) (by simp only [go_sem, Nat.reduceLT, Nat.reduceEqDiff, Nat.reduceAdd, Nat.reduceMul, Nat.reduceSub, Nat.reduceLeDiff, Int.reduceToNat, Int.reduceNeg, Int.reduceLT, Int.reduceLE, Int.reduceEq, reduceCtorEq]) (by repeat (first | exact hAf | refine hA0 _ _ _ (by decide) ?_)) (by repeat (first | exact hAg | refine hA1 _ _ _ (by decide) ?_))
      · rw [decide_eq_false (hne hd)] at hK
        clear hne back3
        repeat' (first | simp only [go_sem, Nat.reduceLT, Nat.reduceEqDiff, Nat.reduceAdd, Nat.reduceMul, Nat.reduceSub, Nat.reduceLeDiff, Int.reduceToNat, Int.reduceNeg, Int.reduceLT, Int.reduceLE, Int.reduceEq, reduceCtorEq, Int.natCast_zero, Int.natCast_one, Int.cast_ofNat_Int, Bool.not_not, false_eq_decide, true_eq_decide, hread0, hreadk, read_cons0, read_consk, astore_h0, astore_hk, hget0, hgetk, hset0, hsetk, hlen, hcat, Nat.add_assoc, Nat.add_zero, Nat.zero_add, List.length_append, and_true, true_and, AV.flat, g1, get_app g1, read_get g1, read_app g1, gt, get_app gt, read_get gt, read_app gt, *, -hK, -kt, -hb2, -hlt, -hlz, -hl1, -hl2, -n1, -n2, -n3, -n4, -hq1, -hq2, -kJ, -hge, -hl256, -hpre, -hwiff, -hgood, -hls, -hpt, -stn, -nds, -hd, -hmay, -hkp, -hlg, -hp] | with_reducible refine IfB_dec (fun h => ?_) (fun h => ?_) | with_reducible refine Guard_dec (fun h => ?_) (fun h => ?_) | with_reducible refine Guard_ndec (fun h => ?_) (fun h => ?_) | with_reducible refine Guard_not (fun h => ?_) (fun h => ?_) | with_reducible refine IfB_ndec (fun h => ?_) (fun h => ?_) | with_reducible refine IfB_not (fun h => ?_) (fun h => ?_) | with_reducible refine Guard_split (fun h => ?_) (fun h => ?_) | with_reducible refine IfB_split (fun h => ?_) (fun h => ?_))
        refine WX_rows hT hmix [(0, none), (1, none), (2, none), (3, none), (4, none), (5, none), (7, none), (8, none), (9, none), (6, some [false, false, false, true, true, true, true, true, true]), (10, some [true, true, true, true, true, true, true, true, true, true]), (11, none)] (by kernel_rfl) ?_
        cases d1 <;> cases d2 <;> first | exact absurd rfl hd | skip
        all_goals
          clear hd
          repeat' (first | simp only [go_sem, Nat.reduceLT, Nat.reduceEqDiff, Nat.reduceAdd, Nat.reduceMul, Nat.reduceSub, Nat.reduceLeDiff, Int.reduceToNat, Int.reduceNeg, Int.reduceLT, Int.reduceLE, Int.reduceEq, reduceCtorEq, Int.natCast_zero, Int.natCast_one, Int.cast_ofNat_Int, Bool.not_not, false_eq_decide, true_eq_decide, hread0, hreadk, read_cons0, read_consk, astore_h0, astore_hk, hget0, hgetk, hset0, hsetk, hlen, hcat, Nat.add_assoc, Nat.add_zero, Nat.zero_add, List.length_append, and_true, true_and, AV.flat, g1, get_app g1, read_get g1, read_app g1, gt, get_app gt, read_get gt, read_app gt, *, -hK, -kt, -hb2, -hlt, -hlz, -hl1, -hl2, -n1, -n2, -n3, -n4, -hq1, -hq2, -kJ, -hge, -hl256, -hpre, -hwiff, -hgood, -hls, -hpt, -stn, -nds, -hmay, -hkp, -hlg, -hp] | refine WC.call (stn _) ?_ | refine WC.call (nds _) ?_ | with_reducible refine IfB_dec (fun h => ?_) (fun h => ?_) | with_reducible refine Guard_dec (fun h => ?_) (fun h => ?_) | with_reducible refine Guard_ndec (fun h => ?_) (fun h => ?_) | with_reducible refine Guard_not (fun h => ?_) (fun h => ?_) | with_reducible refine IfB_ndec (fun h => ?_) (fun h => ?_) | with_reducible refine IfB_not (fun h => ?_) (fun h => ?_) | with_reducible refine Guard_split (fun h => ?_) (fun h => ?_) | with_reducible refine IfB_split (fun h => ?_) (fun h => ?_))
          exact hK _ _ (.bool _) kt
open Go Go.Proofs Go.Proofs.PI
theorem check12_spec (q : Que) (hb : qFit q.bx) (H : Heap) : WC Try.prog 27 [q.av] H fun r H' => r = .int .i64 (queE q) ∧ H' = H := by
  refine WC_val fun K hK => ?_
  have ft := fun J => fits_spec q hb J
  by_cases hq : q.may
  · rw [decide_eq_true hq] at ft
    rw [queE_ok hq] at hK
    unfold Que.av at *
    refine WC_of_body hT Try.func27 rfl (by simp [Try.f27]) (by simp [Try.f27]) (wx_sound hT _ ?_)
    simp only [Try.f27]
    repeat' (first | simp only [go_sem, Nat.reduceLT, Nat.reduceEqDiff, Nat.reduceAdd, Nat.reduceMul, Nat.reduceSub, Nat.reduceLeDiff, Int.reduceToNat, Int.reduceNeg, Int.reduceLT, Int.reduceLE, Int.reduceEq, reduceCtorEq, Int.natCast_zero, Int.natCast_one, Int.cast_ofNat_Int, Bool.not_not, false_eq_decide, true_eq_decide, hread0, hreadk, read_cons0, read_consk, astore_h0, astore_hk, hget0, hgetk, hset0, hsetk, hlen, hcat, Nat.add_assoc, Nat.add_zero, Nat.zero_add, List.length_append, and_true, true_and, AV.flat, *, -hK, -ft, -hq, -hb] | refine WC.call (ft _) ?_ | with_reducible refine IfB_dec (fun h => ?_) (fun h => ?_) | with_reducible refine Guard_dec (fun h => ?_) (fun h => ?_) | with_reducible refine Guard_ndec (fun h => ?_) (fun h => ?_) | with_reducible refine Guard_not (fun h => ?_) (fun h => ?_) | with_reducible refine IfB_ndec (fun h => ?_) (fun h => ?_) | with_reducible refine IfB_not (fun h => ?_) (fun h => ?_) | with_reducible refine Guard_split (fun h => ?_) (fun h => ?_) | with_reducible refine IfB_split (fun h => ?_) (fun h => ?_))
    exact hK _ _ (.int _ _) (Keep.app _ _ _)
  · rw [decide_eq_false hq] at ft
    rw [queE_bad hq] at hK
    unfold Que.av at *
    refine WC_of_body hT Try.func27 rfl (by simp [Try.f27]) (by simp [Try.f27]) (wx_sound hT _ ?_)
    simp only [Try.f27]
    repeat' (first | simp only [go_sem, Nat.reduceLT, Nat.reduceEqDiff, Nat.reduceAdd, Nat.reduceMul, Nat.reduceSub, Nat.reduceLeDiff, Int.reduceToNat, Int.reduceNeg, Int.reduceLT, Int.reduceLE, Int.reduceEq, reduceCtorEq, Int.natCast_zero, Int.natCast_one, Int.cast_ofNat_Int, Bool.not_not, false_eq_decide, true_eq_decide, hread0, hreadk, read_cons0, read_consk, astore_h0, astore_hk, hget0, hgetk, hset0, hsetk, hlen, hcat, Nat.add_assoc, Nat.add_zero, Nat.zero_add, List.length_append, and_true, true_and, AV.flat, *, -hK, -ft, -hq, -hb] | refine WC.call (ft _) ?_ | with_reducible refine IfB_dec (fun h => ?_) (fun h => ?_) | with_reducible refine Guard_dec (fun h => ?_) (fun h => ?_) | with_reducible refine Guard_ndec (fun h => ?_) (fun h => ?_) | with_reducible refine Guard_not (fun h => ?_) (fun h => ?_) | with_reducible refine IfB_ndec (fun h => ?_) (fun h => ?_) | with_reducible refine IfB_not (fun h => ?_) (fun h => ?_) | with_reducible refine Guard_split (fun h => ?_) (fun h => ?_) | with_reducible refine IfB_split (fun h => ?_) (fun h => ?_))
    exact hK _ _ (.int _ _) (Keep.app _ _ _)
theorem may_tick {q : Que} (hq : q.may) {l : List Tkt} (hl : l ∈ q.bx) {t : Tkt} (ht : t ∈ l) : t.mayB = true := by
  obtain ⟨k, hk, e⟩ := List.getElem_of_mem ht
  exact (boxB_iff.1 (hq.2.2.2.2 l hl).2 k t (by rw [← e]; exact List.getElem?_eq_getElem hk)).1
theorem isready12_spec (q : Que) (hq : q.may) (hb : qFit q.bx) (i : Nat) (hi : i < q.bx.length) (H : Heap) : WC Try.prog 41 [q.av, .int .i64 i] H fun r H' => r = .bool (readyB q.bx i) ∧ H' = H := by
  refine WC_val fun K hK => ?_
  have hmt := fun t (ht : t ∈ q.bx[i]) => may_tick hq (List.getElem_mem hi) ht
  obtain ⟨nx, bs⟩ := q
  have hl1 := hq.1
  have hl4 := hq.2.1
  have hall := hq.2.2.2.2
  obtain ⟨hb1, hb2⟩ := hb
  simp only at hi hl1 hl4 hall hb1 hb2 hK hmt
  have e1 := at_enc (E := boxE) (T := T) (k := .i64) se22 hi rfl
  rw [boxE_cells] at e1
  have hr : readyB bs i = match bs[i] with
    | [] => false
    | t :: _ => !((shardsL t bs.length).any fun j => decide (¬ headN bs j = t.num)) := by unfold readyB; rw [List.getElem?_eq_getElem hi]; rfl
  rw [hr] at hK
  clear hr
  obtain ⟨-, hbx⟩ := hall _ (List.getElem_mem hi)
  obtain ⟨hl1', hl2⟩ := hb2 _ (List.getElem_mem hi)
  have hmem := fun t (h : t ∈ bs[i]) => (boxB_mem hbx t h).2
  unfold Que.av
  simp only
  generalize bs[i] = l at *
  cases l with
  | nil =>
    simp only at hK
    refine WC_of_body hT Try.func41 rfl (by simp [Try.f41]) (by simp [Try.f41]) (wx_sound hT _ ?_)
    simp only [Try.f41]
    repeat' (first | simp only [go_sem, Nat.reduceLT, Nat.reduceEqDiff, Nat.reduceAdd, Nat.reduceMul, Nat.reduceSub, Nat.reduceLeDiff, Int.reduceToNat, Int.reduceNeg, Int.reduceLT, Int.reduceLE, Int.reduceEq, reduceCtorEq, Int.natCast_zero, Int.natCast_one, Int.cast_ofNat_Int, Bool.not_not, false_eq_decide, true_eq_decide, hread0, hreadk, read_cons0, read_consk, astore_h0, astore_hk, hget0, hgetk, hset0, hsetk, hlen, hcat, Nat.add_assoc, Nat.add_zero, Nat.zero_add, List.length_append, and_true, true_and, AV.flat, *, -hK, -hall, -hb2, -hl2, -hmem, -hbx, -hmt] | with_reducible refine IfB_dec (fun h => ?_) (fun h => ?_) | with_reducible refine Guard_dec (fun h => ?_) (fun h => ?_) | with_reducible refine Guard_ndec (fun h => ?_) (fun h => ?_) | with_reducible refine Guard_not (fun h => ?_) (fun h => ?_) | with_reducible refine IfB_ndec (fun h => ?_) (fun h => ?_) | with_reducible refine IfB_not (fun h => ?_) (fun h => ?_) | with_reducible refine Guard_split (fun h => ?_) (fun h => ?_) | with_reducible refine IfB_split (fun h => ?_) (fun h => ?_))
    exact hK _ _ (.bool _) (Keep.app _ _ _)
  | cons t l =>
  simp only at hK
  have e2 := at_enc (E := tktE) (T := T) (xs := t :: l) (i := 0) (k := .i64) (z := 0) se31 (by simp) rfl
  rw [tktE_cells] at e2
  simp only [List.getElem_cons_zero] at e2
  obtain ⟨hq1, hq2⟩ := hl2 t (.head _)
  have nd := fun J => needs12_spec t bs.length (hmt t (.head _)) hl1 hl4 hq1 hq2 J
  have hw := hmem t (.head _)
  have hlen : ¬ ((t :: l).length : Int) = 0 := by simp only [List.length_cons]; omega
  have hhd : ∀ j ∈ shardsL t bs.length, ∃ (k : Nat) (hk : k < bs.length) (h : Tkt) (r : List Tkt), j = k ∧ bs[k] = h :: r ∧ headN bs j = h.num := fun j hj => by
    rw [← hw] at hj
    obtain ⟨k, rfl, hk, htk⟩ := mem_whereL.1 hj
    cases hbk : bs[k] with
    | nil => rw [hbk] at htk; simp at htk
    | cons h r => exact ⟨k, hk, h, r, rfl, hbk, by unfold headN; rw [Int.toNat_natCast, List.getElem?_eq_getElem hk]; simp only [Option.getD_some, hbk]⟩
  have hsl := shardsL_len t bs.length
  generalize shardsL t bs.length = L at *
  unfold Tkt.av at nd
  generalize hL : t :: l = tl at *
  refine WC_of_body hT Try.func41 rfl (by simp [Try.f41]) (by simp [Try.f41]) (wx_sound hT _ ?_)
  simp only [Try.f41]
  repeat' (first | simp only [go_sem, Nat.reduceLT, Nat.reduceEqDiff, Nat.reduceAdd, Nat.reduceMul, Nat.reduceSub, Nat.reduceLeDiff, Int.reduceToNat, Int.reduceNeg, Int.reduceLT, Int.reduceLE, Int.reduceEq, reduceCtorEq, Int.natCast_zero, Int.natCast_one, Int.cast_ofNat_Int, Bool.not_not, false_eq_decide, true_eq_decide, hread0, hreadk, read_cons0, read_consk, astore_h0, astore_hk, hget0, hgetk, hset0, hsetk, hlen, hcat, Nat.add_assoc, Nat.add_zero, Nat.zero_add, List.length_append, and_true, true_and, AV.flat, *, -hK, -hall, -hb2, -hl2, -hmem, -hbx, -nd, -hw, -hL, -hmt, -hhd] | refine WC.call (nd _) ?_ | with_reducible refine IfB_dec (fun h => ?_) (fun h => ?_) | with_reducible refine Guard_dec (fun h => ?_) (fun h => ?_) | with_reducible refine Guard_ndec (fun h => ?_) (fun h => ?_) | with_reducible refine Guard_not (fun h => ?_) (fun h => ?_) | with_reducible refine IfB_ndec (fun h => ?_) (fun h => ?_) | with_reducible refine IfB_not (fun h => ?_) (fun h => ?_) | with_reducible refine Guard_split (fun h => ?_) (fun h => ?_) | with_reducible refine IfB_split (fun h => ?_) (fun h => ?_))
  clear nd hmem hmt
  have kG : Keep none H (H ++ [(⟨[.int .i64 nx, boxE.lst bs], 0, .full⟩ : Blk), (⟨t.cs, 0, .full⟩ : Blk)]) := Keep.app _ _ _
  have g0 : (H ++ [(⟨[.int .i64 nx, boxE.lst bs], 0, .full⟩ : Blk), (⟨t.cs, 0, .full⟩ : Blk)])[H.length]? = some ⟨[.int .i64 nx, boxE.lst bs], 0, .full⟩ := by rw [hget0]; rfl
  have g1 : (H ++ [(⟨[.int .i64 nx, boxE.lst bs], 0, .full⟩ : Blk), (⟨t.cs, 0, .full⟩ : Blk)])[H.length + 1]? = some ⟨t.cs, 0, .full⟩ := by rw [hgetk]; rfl
  unfold Tkt.cs at kG g0 g1
  generalize (H ++ [(⟨[.int .i64 nx, boxE.lst bs], 0, .full⟩ : Blk), (⟨[.int .i64 t.num, .int .u8 t.kind, .int .u8 t.cmd.kind, .int .i64 t.cmd.ten, Enc.str.lst t.cmd.keys, .str t.cmd.val, .int .u32 t.cmd.flags, .int .i64 t.cmd.for_, .int .u64 t.cmd.uniq, .int .u64 t.cmd.by_, .int .i64 t.ten, .int .i64 t.to], 0, .full⟩ : Blk)] : Heap) = G at *
  refine WX_loopS [2, 5, 6] (fun kn fr' J => ∃ z : Nat, kn = L.length - z ∧ z ≤ L.length ∧ fr'.get 7 = .int .i64 z ∧ J = G ∧ ∀ (z' : Nat) (j : Int), z' < z → L[z']? = some j → headN bs j = t.num) L.length ⟨0, rfl, by omega, by simp only [go_sem, Nat.reduceLT, Nat.reduceEqDiff, Nat.reduceAdd, Nat.reduceMul, Nat.reduceSub, Nat.reduceLeDiff, Int.reduceToNat, Int.reduceNeg, Int.reduceLT, Int.reduceLE, Int.reduceEq, reduceCtorEq]; rfl, rfl, fun z' j h => by omega⟩ ?_
  rintro kn fr' J A R hA hs hg hR ⟨z, rfl, hz, f7, rfl, hpre⟩
  have s2 := hg 2 (by decide)
  have s5 := hg 5 (by decide)
  have s6 := hg 6 (by decide)
  simp only [Fr.get_put, Fr.get_init, List.getD_cons_zero, List.getD_cons_succ, Nat.reduceEqDiff, if_true, if_false] at s2 s5 s6
  refine wx_sound hT _ ?_
  by_cases hlz : z < L.length
  rotate_left
  · have i6 : ¬ (z : Int) < L.length := by omega
    have hany : (L.any fun j => decide (¬ headN bs j = t.num)) = false := by
      rw [List.any_eq_false]
      intro j hj
      obtain ⟨z', hz', e⟩ := List.getElem_of_mem hj
      have := hpre z' j (by omega) (by rw [← e]; exact List.getElem?_eq_getElem hz')
      simp [this]
    rw [hany] at hK
    repeat' (first | simp only [go_sem, Nat.reduceLT, Nat.reduceEqDiff, Nat.reduceAdd, Nat.reduceMul, Nat.reduceSub, Nat.reduceLeDiff, Int.reduceToNat, Int.reduceNeg, Int.reduceLT, Int.reduceLE, Int.reduceEq, reduceCtorEq, Int.natCast_zero, Int.natCast_one, Int.cast_ofNat_Int, Bool.not_not, false_eq_decide, true_eq_decide, hread0, hreadk, read_cons0, read_consk, astore_h0, astore_hk, hget0, hgetk, hset0, hsetk, hlen, hcat, Nat.add_assoc, Nat.add_zero, Nat.zero_add, List.length_append, and_true, true_and, AV.flat, g0, get_app g0, read_get g0, read_app g0, g1, get_app g1, read_get g1, read_app g1, *, -hK, -hall, -hb2, -hl2, -hbx, -hw, -hL, -hhd, -kG, -hpre, -hlz, -hany] | with_reducible refine IfB_dec (fun h => ?_) (fun h => ?_) | with_reducible refine Guard_dec (fun h => ?_) (fun h => ?_) | with_reducible refine Guard_ndec (fun h => ?_) (fun h => ?_) | with_reducible refine Guard_not (fun h => ?_) (fun h => ?_) | with_reducible refine IfB_ndec (fun h => ?_) (fun h => ?_) | with_reducible refine IfB_not (fun h => ?_) (fun h => ?_) | with_reducible refine Guard_split (fun h => ?_) (fun h => ?_) | with_reducible refine IfB_split (fun h => ?_) (fun h => ?_))
    exact hK _ _ (.bool _) kG
  have i6 : (z : Int) < L.length := by omega
  have e4 := inc_id hlz (by omega)
  have e8 := at_enc (E := Enc.int .i64) (T := T) (k := .i64) se27 hlz rfl
  rw [int_cells] at e8
  obtain ⟨k, hk, h, r, hj, hbk, hhn⟩ := hhd _ (List.getElem_mem hlz)
  have e9 := at_enc (E := boxE) (T := T) (k := .i64) se22 hk rfl
  rw [boxE_cells, hbk] at e9
  have e10 := at_enc (E := tktE) (T := T) (xs := h :: r) (i := 0) (k := .i64) (z := 0) se31 (by simp) rfl
  rw [tktE_cells] at e10
  simp only [List.getElem_cons_zero] at e10
  have hgz : L[z]? = some L[z] := List.getElem?_eq_getElem hlz
  have hmm := List.getElem_mem hlz
  have back : h.num = t.num → ∀ fr2, A fr2 → fr2.get 7 = .int .i64 ((z + 1 : Nat) : Int) → R fr2 J := fun e fr2 ha q1 => hR fr2 J ha (L.length - (z + 1)) (by omega) ⟨z + 1, rfl, by omega, q1, rfl, fun z' j hz' hjj => by
    by_cases e2 : z' = z
    · subst e2; rw [hgz] at hjj; cases hjj; rw [hhn]; exact e
    · exact hpre z' j (by omega) hjj⟩
  have hbad : ¬ h.num = t.num → (L.any fun j => decide (¬ headN bs j = t.num)) = true := fun e => by
    rw [List.any_eq_true]
    exact ⟨_, hmm, by rw [hhn]; simpa using e⟩
  rw [hj] at e8
  clear hR hhn hj hbk hgz hmm
  generalize h :: r = hs2 at *
  by_cases hn : h.num = t.num
  · have back := back hn
    clear hbad
    repeat' (first | simp only [go_sem, Nat.reduceLT, Nat.reduceEqDiff, Nat.reduceAdd, Nat.reduceMul, Nat.reduceSub, Nat.reduceLeDiff, Int.reduceToNat, Int.reduceNeg, Int.reduceLT, Int.reduceLE, Int.reduceEq, reduceCtorEq, Int.natCast_zero, Int.natCast_one, Int.cast_ofNat_Int, Bool.not_not, false_eq_decide, true_eq_decide, hread0, hreadk, read_cons0, read_consk, astore_h0, astore_hk, hget0, hgetk, hset0, hsetk, hlen, hcat, Nat.add_assoc, Nat.add_zero, Nat.zero_add, List.length_append, and_true, true_and, AV.flat, g0, get_app g0, read_get g0, read_app g0, g1, get_app g1, read_get g1, read_app g1, *, -hK, -hall, -hb2, -hl2, -hbx, -hw, -hL, -hhd, -kG, -hpre, -hlz, -back] | with_reducible refine IfB_dec (fun h => ?_) (fun h => ?_) | with_reducible refine Guard_dec (fun h => ?_) (fun h => ?_) | with_reducible refine Guard_ndec (fun h => ?_) (fun h => ?_) | with_reducible refine Guard_not (fun h => ?_) (fun h => ?_) | with_reducible refine IfB_ndec (fun h => ?_) (fun h => ?_) | with_reducible refine IfB_not (fun h => ?_) (fun h => ?_) | with_reducible refine Guard_split (fun h => ?_) (fun h => ?_) | with_reducible refine IfB_split (fun h => ?_) (fun h => ?_))
    refine WX_rows hT hmix [(0, none), (1, none), (2, none), (3, none), (4, none), (5, none), (6, none), (7, none), (8, none), (9, none), (10, none), (11, none), (12, none), (13, none)] (by kernel_rfl) ?_
    repeat' (first | simp only [go_sem, Nat.reduceLT, Nat.reduceEqDiff, Nat.reduceAdd, Nat.reduceMul, Nat.reduceSub, Nat.reduceLeDiff, Int.reduceToNat, Int.reduceNeg, Int.reduceLT, Int.reduceLE, Int.reduceEq, reduceCtorEq, Int.natCast_zero, Int.natCast_one, Int.cast_ofNat_Int, Bool.not_not, false_eq_decide, true_eq_decide, hread0, hreadk, read_cons0, read_consk, astore_h0, astore_hk, hget0, hgetk, hset0, hsetk, hlen, hcat, Nat.add_assoc, Nat.add_zero, Nat.zero_add, List.length_append, and_true, true_and, AV.flat, g0, get_app g0, read_get g0, read_app g0, g1, get_app g1, read_get g1, read_app g1, *, -hK, -hall, -hb2, -hl2, -hbx, -hw, -hL, -hhd, -kG, -hpre, -hlz, -back] | with_reducible refine IfB_dec (fun h => ?_) (fun h => ?_) | with_reducible refine Guard_dec (fun h => ?_) (fun h => ?_) | with_reducible refine Guard_ndec (fun h => ?_) (fun h => ?_) | with_reducible refine Guard_not (fun h => ?_) (fun h => ?_) | with_reducible refine IfB_ndec (fun h => ?_) (fun h => ?_) | with_reducible refine IfB_not (fun h => ?_) (fun h => ?_) | with_reducible refine Guard_split (fun h => ?_) (fun h => ?_) | with_reducible refine IfB_split (fun h => ?_) (fun h => ?_))
    exact back _ (by (repeat (first | exact hs | refine hA _ _ _ (by decide) ?_))) (by simp only [go_sem, Nat.reduceLT, Nat.reduceEqDiff, Nat.reduceAdd, Nat.reduceMul, Nat.reduceSub, Nat.reduceLeDiff, Int.reduceToNat, Int.reduceNeg, Int.reduceLT, Int.reduceLE, Int.reduceEq, reduceCtorEq])
  · rw [hbad hn] at hK
    clear hbad back
    repeat' (first | simp only [go_sem, Nat.reduceLT, Nat.reduceEqDiff, Nat.reduceAdd, Nat.reduceMul, Nat.reduceSub, Nat.reduceLeDiff, Int.reduceToNat, Int.reduceNeg, Int.reduceLT, Int.reduceLE, Int.reduceEq, reduceCtorEq, Int.natCast_zero, Int.natCast_one, Int.cast_ofNat_Int, Bool.not_not, false_eq_decide, true_eq_decide, hread0, hreadk, read_cons0, read_consk, astore_h0, astore_hk, hget0, hgetk, hset0, hsetk, hlen, hcat, Nat.add_assoc, Nat.add_zero, Nat.zero_add, List.length_append, and_true, true_and, AV.flat, g0, get_app g0, read_get g0, read_app g0, g1, get_app g1, read_get g1, read_app g1, *, -hK, -hall, -hb2, -hl2, -hbx, -hw, -hL, -hhd, -kG, -hpre, -hlz] | with_reducible refine IfB_dec (fun h => ?_) (fun h => ?_) | with_reducible refine Guard_dec (fun h => ?_) (fun h => ?_) | with_reducible refine Guard_ndec (fun h => ?_) (fun h => ?_) | with_reducible refine Guard_not (fun h => ?_) (fun h => ?_) | with_reducible refine IfB_ndec (fun h => ?_) (fun h => ?_) | with_reducible refine IfB_not (fun h => ?_) (fun h => ?_) | with_reducible refine Guard_split (fun h => ?_) (fun h => ?_) | with_reducible refine IfB_split (fun h => ?_) (fun h => ?_))
    refine WX_rows hT hmix [(0, none), (1, none), (2, none), (3, none), (4, none), (5, none), (6, none), (7, none), (8, none), (9, none), (10, none), (11, none), (12, none), (13, none)] (by kernel_rfl) ?_
    repeat' (first | simp only [go_sem, Nat.reduceLT, Nat.reduceEqDiff, Nat.reduceAdd, Nat.reduceMul, Nat.reduceSub, Nat.reduceLeDiff, Int.reduceToNat, Int.reduceNeg, Int.reduceLT, Int.reduceLE, Int.reduceEq, reduceCtorEq, Int.natCast_zero, Int.natCast_one, Int.cast_ofNat_Int, Bool.not_not, false_eq_decide, true_eq_decide, hread0, hreadk, read_cons0, read_consk, astore_h0, astore_hk, hget0, hgetk, hset0, hsetk, hlen, hcat, Nat.add_assoc, Nat.add_zero, Nat.zero_add, List.length_append, and_true, true_and, AV.flat, g0, get_app g0, read_get g0, read_app g0, g1, get_app g1, read_get g1, read_app g1, *, -hK, -hall, -hb2, -hl2, -hbx, -hw, -hL, -hhd, -kG, -hpre, -hlz] | with_reducible refine IfB_dec (fun h => ?_) (fun h => ?_) | with_reducible refine Guard_dec (fun h => ?_) (fun h => ?_) | with_reducible refine Guard_ndec (fun h => ?_) (fun h => ?_) | with_reducible refine Guard_not (fun h => ?_) (fun h => ?_) | with_reducible refine IfB_ndec (fun h => ?_) (fun h => ?_) | with_reducible refine IfB_not (fun h => ?_) (fun h => ?_) | with_reducible refine Guard_split (fun h => ?_) (fun h => ?_) | with_reducible refine IfB_split (fun h => ?_) (fun h => ?_))
    exact hK _ _ (.bool _) kG
theorem ready12_spec (q : Que) (hb : qFit q.bx) (H : Heap) : WC Try.prog 21 [q.av] H fun r H' => r = .tup [(Enc.int .i64).lst (readyL q), .int .i64 (queE q)] ∧ H' = H := by
  refine WC_val fun K hK => ?_
  have ft := fun J => fits_spec q hb J
  by_cases hq : q.may
  rotate_left
  · rw [decide_eq_false hq] at ft
    rw [queE_bad hq] at hK
    rw [show readyL q = [] by unfold readyL; rw [if_neg hq]] at hK
    unfold Que.av at *
    refine WC_of_body hT Try.func21 rfl (by simp [Try.f21]) (by simp [Try.f21]) (wx_sound hT _ ?_)
    simp only [Try.f21]
    repeat' (first | simp only [go_sem, Nat.reduceLT, Nat.reduceEqDiff, Nat.reduceAdd, Nat.reduceMul, Nat.reduceSub, Nat.reduceLeDiff, Int.reduceToNat, Int.reduceNeg, Int.reduceLT, Int.reduceLE, Int.reduceEq, reduceCtorEq, Int.natCast_zero, Int.natCast_one, Int.cast_ofNat_Int, Bool.not_not, false_eq_decide, true_eq_decide, hread0, hreadk, read_cons0, read_consk, astore_h0, astore_hk, hget0, hgetk, hset0, hsetk, hlen, hcat, Nat.add_assoc, Nat.add_zero, Nat.zero_add, List.length_append, and_true, true_and, AV.flat, *, -hK, -ft, -hq, -hb] | refine WC.call (ft _) ?_ | with_reducible refine IfB_dec (fun h => ?_) (fun h => ?_) | with_reducible refine Guard_dec (fun h => ?_) (fun h => ?_) | with_reducible refine Guard_ndec (fun h => ?_) (fun h => ?_) | with_reducible refine Guard_not (fun h => ?_) (fun h => ?_) | with_reducible refine IfB_ndec (fun h => ?_) (fun h => ?_) | with_reducible refine IfB_not (fun h => ?_) (fun h => ?_) | with_reducible refine Guard_split (fun h => ?_) (fun h => ?_) | with_reducible refine IfB_split (fun h => ?_) (fun h => ?_))
    exact hK _ _ (Thaw.tup_row ⟨.nils, .int _ _, trivial⟩) (Keep.app _ _ _)
  rw [decide_eq_true hq] at ft
  rw [queE_ok hq] at hK
  rw [show readyL q = readyN q.bx q.bx.length by unfold readyL; rw [if_pos hq]] at hK
  have rd := fun (i : Nat) (hi : i < q.bx.length) J => isready12_spec q hq hb i hi J
  have hl4 := hq.2.1
  obtain ⟨nx, bs⟩ := q
  simp only at hl4 rd hK
  unfold Que.av at *
  simp only at ft rd ⊢
  refine WC_of_body hT Try.func21 rfl (by simp [Try.f21]) (by simp [Try.f21]) (wx_sound hT _ ?_)
  simp only [Try.f21]
  repeat' (first | simp only [go_sem, Nat.reduceLT, Nat.reduceEqDiff, Nat.reduceAdd, Nat.reduceMul, Nat.reduceSub, Nat.reduceLeDiff, Int.reduceToNat, Int.reduceNeg, Int.reduceLT, Int.reduceLE, Int.reduceEq, reduceCtorEq, Int.natCast_zero, Int.natCast_one, Int.cast_ofNat_Int, Bool.not_not, false_eq_decide, true_eq_decide, hread0, hreadk, read_cons0, read_consk, astore_h0, astore_hk, hget0, hgetk, hset0, hsetk, hlen, hcat, Nat.add_assoc, Nat.add_zero, Nat.zero_add, List.length_append, and_true, true_and, AV.flat, *, -hK, -ft, -hq, -hb, -rd] | refine WC.call (ft _) ?_ | with_reducible refine IfB_dec (fun h => ?_) (fun h => ?_) | with_reducible refine Guard_dec (fun h => ?_) (fun h => ?_) | with_reducible refine Guard_ndec (fun h => ?_) (fun h => ?_) | with_reducible refine Guard_not (fun h => ?_) (fun h => ?_) | with_reducible refine IfB_ndec (fun h => ?_) (fun h => ?_) | with_reducible refine IfB_not (fun h => ?_) (fun h => ?_) | with_reducible refine Guard_split (fun h => ?_) (fun h => ?_) | with_reducible refine IfB_split (fun h => ?_) (fun h => ?_))
  clear ft
  refine WX_loopS [1] (fun k fr' J => ∃ (i : Nat) (w : AV), k = bs.length - i ∧ i ≤ bs.length ∧ fr'.get 5 = .int .i64 i ∧ fr'.get 4 = w ∧ OwnE (Enc.int .i64) (H.length + 1) J w (readyN bs i) ∧ Keep none H J ∧ H.length + 1 ≤ J.length ∧ J[H.length]? = some (⟨[.int .i64 nx, boxE.lst bs], 0, .full⟩ : Blk)) bs.length ⟨0, .nils, rfl, by omega, by simp only [go_sem, Nat.reduceLT, Nat.reduceEqDiff, Nat.reduceAdd, Nat.reduceMul, Nat.reduceSub, Nat.reduceLeDiff, Int.reduceToNat, Int.reduceNeg, Int.reduceLT, Int.reduceLE, Int.reduceEq, reduceCtorEq]; rfl, by simp only [go_sem, Nat.reduceLT, Nat.reduceEqDiff, Nat.reduceAdd, Nat.reduceMul, Nat.reduceSub, Nat.reduceLeDiff, Int.reduceToNat, Int.reduceNeg, Int.reduceLT, Int.reduceLE, Int.reduceEq, reduceCtorEq], by simp only [readyN, List.range_zero, List.filter_nil, List.map_nil]; exact OwnE.nils _ _ _, Keep.app _ _ _, by simp, by rw [hget0]; rfl⟩ ?_
  rintro k fr' J A R hA hs hg hR ⟨i, w, rfl, hi, f5, f4, ow, kJ, hJl, g0⟩
  have s1 := hg 1 (by decide)
  simp only [Fr.get_put, Fr.get_init, List.getD_cons_zero, List.getD_cons_succ, Nat.reduceEqDiff, if_true, if_false] at s1
  refine wx_sound hT _ ?_
  have hwo := ow.one
  by_cases hlt : i < bs.length
  rotate_left
  · have i1 : ¬ (i : Int) < bs.length := by omega
    have hie : i = bs.length := by omega
    rw [hie] at ow
    repeat' (first | simp only [go_sem, Nat.reduceLT, Nat.reduceEqDiff, Nat.reduceAdd, Nat.reduceMul, Nat.reduceSub, Nat.reduceLeDiff, Int.reduceToNat, Int.reduceNeg, Int.reduceLT, Int.reduceLE, Int.reduceEq, reduceCtorEq, Int.natCast_zero, Int.natCast_one, Int.cast_ofNat_Int, Bool.not_not, false_eq_decide, true_eq_decide, hread0, hreadk, read_cons0, read_consk, astore_h0, astore_hk, hget0, hgetk, hset0, hsetk, hlen, hcat, Nat.add_assoc, Nat.add_zero, Nat.zero_add, List.length_append, and_true, true_and, AV.flat, hwo, one_solid hwo, one_cells hwo, g0, get_app g0, read_get g0, read_app g0, *, -hK, -hq, -hb, -rd, -ow, -kJ, -hJl, -hie] | with_reducible refine IfB_dec (fun h => ?_) (fun h => ?_) | with_reducible refine Guard_dec (fun h => ?_) (fun h => ?_) | with_reducible refine Guard_ndec (fun h => ?_) (fun h => ?_) | with_reducible refine Guard_not (fun h => ?_) (fun h => ?_) | with_reducible refine IfB_ndec (fun h => ?_) (fun h => ?_) | with_reducible refine IfB_not (fun h => ?_) (fun h => ?_) | with_reducible refine Guard_split (fun h => ?_) (fun h => ?_) | with_reducible refine IfB_split (fun h => ?_) (fun h => ?_))
    exact hK _ _ (Thaw.tup_row ⟨OwnE.thaw (E := Enc.int .i64) (Own.mono ow (m' := H.length) (by omega)) (by decide), .int _ _, trivial⟩) kJ
  have i1 : (i : Int) < bs.length := by omega
  have e3 := inc_id hlt (by omega)
  have rdi := rd i hlt
  have hst := readyN_step bs i
  have hwl := readyN_len bs i
  have back : ∀ fr2 J2 w2, A fr2 → fr2.get 5 = .int .i64 ((i + 1 : Nat) : Int) → fr2.get 4 = w2 → OwnE (Enc.int .i64) (H.length + 1) J2 w2 (readyN bs (i + 1)) → Keep none H J2 → H.length + 1 ≤ J2.length → J2[H.length]? = J[H.length]? → R fr2 J2 := fun fr2 J2 w2 ha q1 q2 q3 q4 q5 q6 => hR fr2 J2 ha (bs.length - (i + 1)) (by omega) ⟨i + 1, w2, rfl, by omega, q1, q2, q3, q4, q5, by rw [q6]; exact g0⟩
  rw [hst] at back
  clear hR hst rd
  generalize readyB bs i = rb at *
  cases rb with
  | true =>
    rw [if_pos rfl] at back
    repeat' (first | simp only [go_sem, Nat.reduceLT, Nat.reduceEqDiff, Nat.reduceAdd, Nat.reduceMul, Nat.reduceSub, Nat.reduceLeDiff, Int.reduceToNat, Int.reduceNeg, Int.reduceLT, Int.reduceLE, Int.reduceEq, reduceCtorEq, Int.natCast_zero, Int.natCast_one, Int.cast_ofNat_Int, Bool.not_not, false_eq_decide, true_eq_decide, hread0, hreadk, read_cons0, read_consk, astore_h0, astore_hk, hget0, hgetk, hset0, hsetk, hlen, hcat, Nat.add_assoc, Nat.add_zero, Nat.zero_add, List.length_append, and_true, true_and, AV.flat, g0, get_app g0, read_get g0, read_app g0, hwo, one_solid hwo, one_cells hwo, *, -hK, -hq, -hb, -ow, -kJ, -hJl, -rdi, -back, -hwl] | refine WC.call (rdi _) ?_ | with_reducible refine IfB_dec (fun h => ?_) (fun h => ?_) | with_reducible refine Guard_dec (fun h => ?_) (fun h => ?_) | with_reducible refine Guard_ndec (fun h => ?_) (fun h => ?_) | with_reducible refine Guard_not (fun h => ?_) (fun h => ?_) | with_reducible refine IfB_ndec (fun h => ?_) (fun h => ?_) | with_reducible refine IfB_not (fun h => ?_) (fun h => ?_) | with_reducible refine Guard_split (fun h => ?_) (fun h => ?_) | with_reducible refine IfB_split (fun h => ?_) (fun h => ?_))
    refine append1_enc (E := Enc.int .i64) (x := (i : Int)) ow rfl se27 az3 td3 tk27 rfl rfl (by decide) (by show (_ + 1) * 9 ≤ _; omega) hJl ?_
    intro v5 H5 o5 k5 hn5
    have hv5 := o5.one
    repeat' (first | simp only [go_sem, Nat.reduceLT, Nat.reduceEqDiff, Nat.reduceAdd, Nat.reduceMul, Nat.reduceSub, Nat.reduceLeDiff, Int.reduceToNat, Int.reduceNeg, Int.reduceLT, Int.reduceLE, Int.reduceEq, reduceCtorEq, Int.natCast_zero, Int.natCast_one, Int.cast_ofNat_Int, Bool.not_not, false_eq_decide, true_eq_decide, hread0, hreadk, read_cons0, read_consk, astore_h0, astore_hk, hget0, hgetk, hset0, hsetk, hlen, hcat, Nat.add_assoc, Nat.add_zero, Nat.zero_add, List.length_append, and_true, true_and, AV.flat, hv5, one_solid hv5, one_cells hv5, *, -hK, -hq, -hb, -ow, -kJ, -hJl, -rdi, -back, -hwl, -o5, -k5, -hn5, -g0] | with_reducible refine IfB_dec (fun h => ?_) (fun h => ?_) | with_reducible refine Guard_dec (fun h => ?_) (fun h => ?_) | with_reducible refine Guard_ndec (fun h => ?_) (fun h => ?_) | with_reducible refine Guard_not (fun h => ?_) (fun h => ?_) | with_reducible refine IfB_ndec (fun h => ?_) (fun h => ?_) | with_reducible refine IfB_not (fun h => ?_) (fun h => ?_) | with_reducible refine Guard_split (fun h => ?_) (fun h => ?_) | with_reducible refine IfB_split (fun h => ?_) (fun h => ?_))
    exact back _ _ _ (by (repeat (first | exact hs | refine hA _ _ _ (by decide) ?_))) (by simp only [go_sem, Nat.reduceLT, Nat.reduceEqDiff, Nat.reduceAdd, Nat.reduceMul, Nat.reduceSub, Nat.reduceLeDiff, Int.reduceToNat, Int.reduceNeg, Int.reduceLT, Int.reduceLE, Int.reduceEq, reduceCtorEq]) rfl (by simp only [go_sem, Nat.reduceLT, Nat.reduceEqDiff, Nat.reduceAdd, Nat.reduceMul, Nat.reduceSub, Nat.reduceLeDiff, Int.reduceToNat, Int.reduceNeg, Int.reduceLT, Int.reduceLE, Int.reduceEq, reduceCtorEq]; exact o5) (kJ.via k5 (fun b hb => by have := ow.ge hb; omega)) (Nat.le_trans hJl k5.len) (k5.at_ _ (by omega) (fun e => by have := ow.ge e; omega))
  | false =>
    rw [if_neg (by decide), List.append_nil] at back
    repeat' (first | simp only [go_sem, Nat.reduceLT, Nat.reduceEqDiff, Nat.reduceAdd, Nat.reduceMul, Nat.reduceSub, Nat.reduceLeDiff, Int.reduceToNat, Int.reduceNeg, Int.reduceLT, Int.reduceLE, Int.reduceEq, reduceCtorEq, Int.natCast_zero, Int.natCast_one, Int.cast_ofNat_Int, Bool.not_not, false_eq_decide, true_eq_decide, hread0, hreadk, read_cons0, read_consk, astore_h0, astore_hk, hget0, hgetk, hset0, hsetk, hlen, hcat, Nat.add_assoc, Nat.add_zero, Nat.zero_add, List.length_append, and_true, true_and, AV.flat, g0, get_app g0, read_get g0, read_app g0, hwo, one_solid hwo, one_cells hwo, *, -hK, -hq, -hb, -ow, -kJ, -hJl, -rdi, -back, -hwl] | refine WC.call (rdi _) ?_ | with_reducible refine IfB_dec (fun h => ?_) (fun h => ?_) | with_reducible refine Guard_dec (fun h => ?_) (fun h => ?_) | with_reducible refine Guard_ndec (fun h => ?_) (fun h => ?_) | with_reducible refine Guard_not (fun h => ?_) (fun h => ?_) | with_reducible refine IfB_ndec (fun h => ?_) (fun h => ?_) | with_reducible refine IfB_not (fun h => ?_) (fun h => ?_) | with_reducible refine Guard_split (fun h => ?_) (fun h => ?_) | with_reducible refine IfB_split (fun h => ?_) (fun h => ?_))
    exact back _ _ _ (by (repeat (first | exact hs | refine hA _ _ _ (by decide) ?_))) (by simp only [go_sem, Nat.reduceLT, Nat.reduceEqDiff, Nat.reduceAdd, Nat.reduceMul, Nat.reduceSub, Nat.reduceLeDiff, Int.reduceToNat, Int.reduceNeg, Int.reduceLT, Int.reduceLE, Int.reduceEq, reduceCtorEq]) (by simp only [go_sem, Nat.reduceLT, Nat.reduceEqDiff, Nat.reduceAdd, Nat.reduceMul, Nat.reduceSub, Nat.reduceLeDiff, Int.reduceToNat, Int.reduceNeg, Int.reduceLT, Int.reduceLE, Int.reduceEq, reduceCtorEq]; exact f4) ow kJ hJl rfl
end Go.Proofs.Ytkmkhiipiflelaa

