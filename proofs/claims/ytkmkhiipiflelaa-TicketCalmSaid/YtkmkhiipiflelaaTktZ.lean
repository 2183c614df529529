import Derived.Test.YtkmkhiipiflelaaTktY
import Derived.Test.YtkmkhiipiflelaaTicketV
set_option linter.unusedSimpArgs false
set_option linter.unusedVariables false
set_option maxRecDepth 100000
set_option maxHeartbeats 4000000
namespace Go.Proofs.Ytkmkhiipiflelaa
open Go Go.Proofs Go.Proofs.PI
/-- The eldest head, and whose. -/
def eld (b : List (List Tkt)) : Nat → Int × Int
  | 0 => (-1, -1)
  | i + 1 => match b[i]?.getD [] with
    | [] => eld b i
    | t :: _ => if (eld b i).2 < 0 ∨ t.num < (eld b i).1 then (t.num, i) else eld b i
theorem eld_inv (b : List (List Tkt)) : ∀ i, i ≤ b.length → ((eld b i).2 = -1 ∧ ∀ j (hj : j < i) (hx : j < b.length), b[j] = []) ∨ (∃ w : Nat, w < i ∧ (eld b i).2 = w ∧ ∃ (hw : w < b.length) (t : Tkt) (r : List Tkt), b[w] = t :: r ∧ (eld b i).1 = t.num ∧ ∀ j (hj : j < i) (hx : j < b.length) x xs, b[j] = x :: xs → t.num ≤ x.num)
  | 0, _ => .inl ⟨rfl, fun j hj => by omega⟩
  | i + 1, h => by
    have hi : i < b.length := by omega
    have ih := eld_inv b i (by omega)
    have he : eld b (i + 1) = match b[i] with
      | [] => eld b i
      | t :: _ => if (eld b i).2 < 0 ∨ t.num < (eld b i).1 then (t.num, (i : Int)) else eld b i := by rw [eld, List.getElem?_eq_getElem hi]; rfl
    rw [he]
    cases hb : b[i] with
    | nil =>
      simp only
      rcases ih with ⟨h1, h2⟩ | ⟨w, h1, h2, hw, t, r, h3, h4, h5⟩
      · exact .inl ⟨h1, fun j hj hx => by
          by_cases e : j = i
          · subst e; exact hb
          · exact h2 j (by omega) hx⟩
      · exact .inr ⟨w, by omega, h2, hw, t, r, h3, h4, fun j hj hx x xs hjx => by
          by_cases e : j = i
          · subst e; rw [hb] at hjx; cases hjx
          · exact h5 j (by omega) hx x xs hjx⟩
    | cons x0 xs0 =>
      simp only
      by_cases hc : (eld b i).2 < 0 ∨ x0.num < (eld b i).1
      · rw [if_pos hc]
        refine .inr ⟨i, by omega, rfl, hi, x0, xs0, hb, rfl, fun j hj hx x xs hjx => ?_⟩
        by_cases e : j = i
        · subst e; rw [hb] at hjx; cases hjx; exact Int.le_refl _
        · rcases ih with ⟨h1, h2⟩ | ⟨w, h1, h2, hw, t, r, h3, h4, h5⟩
          · have := h2 j (by omega) hx; rw [this] at hjx; cases hjx
          · have h6 := h5 j (by omega) hx x xs hjx
            rcases hc with hc | hc
            · omega
            · omega
      · rw [if_neg hc]
        rcases ih with ⟨h1, h2⟩ | ⟨w, h1, h2, hw, t, r, h3, h4, h5⟩
        · exact absurd (.inl (by omega)) hc
        · refine .inr ⟨w, by omega, h2, hw, t, r, h3, h4, fun j hj hx x xs hjx => ?_⟩
          by_cases e : j = i
          · subst e; rw [hb] at hjx; cases hjx
            have : ¬ x0.num < (eld b j).1 := fun h => hc (.inr h)
            omega
          · exact h5 j (by omega) hx x xs hjx
theorem mem_readyN {b : List (List Tkt)} {n : Nat} {j : Int} : j ∈ readyN b n ↔ ∃ k : Nat, j = k ∧ k < n ∧ readyB b k = true := by
  unfold readyN
  rw [List.mem_map]
  constructor
  · rintro ⟨k, hk, rfl⟩
    rw [List.mem_filter, List.mem_range] at hk
    exact ⟨k, rfl, hk.1, hk.2⟩
  · rintro ⟨k, rfl, h, hr⟩
    exact ⟨k, by rw [List.mem_filter, List.mem_range]; exact ⟨h, hr⟩, rfl⟩
theorem calm_plain {q : Que} (hq : q.may) : decide ((eld q.bx q.bx.length).2 ∈ readyN q.bx q.bx.length) = decide ((eld q.bx q.bx.length).2 ≥ 0) := by
  rw [decide_eq_decide, mem_readyN]
  rcases eld_inv q.bx q.bx.length (Nat.le_refl _) with ⟨h1, h2⟩ | ⟨w, h1, h2, hw, t, r, h3, h4, h5⟩
  · rw [h1]
    constructor
    · rintro ⟨k, hk, _⟩; omega
    · intro h; omega
  · rw [h2]
    refine ⟨fun _ => by omega, fun _ => ⟨w, rfl, hw, ?_⟩⟩
    have hbw := (hq.2.2.2.2 _ (List.getElem_mem hw)).2
    have hwh := (boxB_mem hbw t (by rw [h3]; exact .head _)).2
    unfold readyB
    rw [List.getElem?_eq_getElem hw]
    simp only [Option.getD_some, h3]
    rw [Bool.not_eq_true', List.any_eq_false]
    intro j hj
    rw [← hwh] at hj
    obtain ⟨k, rfl, hk, htk⟩ := mem_whereL.1 hj
    cases hbk : q.bx[k] with
    | nil => rw [hbk] at htk; simp at htk
    | cons x xs =>
      have hh : headN q.bx (k : Int) = x.num := by unfold headN; rw [Int.toNat_natCast, List.getElem?_eq_getElem hk]; simp only [Option.getD_some, hbk]
      rw [hh]
      have g1 := h5 k hk hk x xs hbk
      have hbk2 := (hq.2.2.2.2 _ (List.getElem_mem hk)).2
      rw [hbk] at hbk2 htk
      have g2 := boxB_head hbk2 t htk
      have : x.num = t.num := by omega
      simp [this]
theorem ticketCalm_walk (avs : List AV) (h : InpPAll T 9 [24] avs) : WC Try.prog 3 avs [] fun v _ => v = .bool true := by
  obtain ⟨a0, _, rfl, h0, h⟩ := h.cons
  obtain rfl := h.nil
  obtain ⟨q, rfl, hin⟩ := inp_que h0
  clear h0 h
  generalize ([] : Heap) = H
  refine WC_of_K fun K hK => ?_
  have gr := fun J => great_spec q hin J
  have rdy := fun hb J => readyAll_spec q hb J
  unfold Que.av at *
  refine WC_of_body hT Try.func3 rfl (by simp [Try.f3]) (by simp [Try.f3]) (wx_sound hT _ ?_)
  simp only [Try.f3]
  repeat' (first | simp only [go_sem, Nat.reduceLT, Nat.reduceEqDiff, Nat.reduceAdd, Nat.reduceMul, Nat.reduceSub, Nat.reduceLeDiff, Int.reduceToNat, Int.reduceNeg, Int.reduceLT, Int.reduceLE, Int.reduceEq, reduceCtorEq, Int.natCast_zero, Int.natCast_one, Int.cast_ofNat_Int, Bool.not_not, false_eq_decide, true_eq_decide, hread0, hreadk, read_cons0, read_consk, astore_h0, astore_hk, hget0, hgetk, hset0, hsetk, hlen, hcat, Nat.add_assoc, Nat.add_zero, Nat.zero_add, List.length_append, and_true, true_and, AV.flat, *, -hK, -gr, -rdy, -hin] | refine WC.call (alive_spec _) ?_ | with_reducible refine IfB_dec (fun h => ?_) (fun h => ?_) | with_reducible refine Guard_dec (fun h => ?_) (fun h => ?_) | with_reducible refine Guard_ndec (fun h => ?_) (fun h => ?_) | with_reducible refine Guard_not (fun h => ?_) (fun h => ?_) | with_reducible refine IfB_ndec (fun h => ?_) (fun h => ?_) | with_reducible refine IfB_not (fun h => ?_) (fun h => ?_) | with_reducible refine Guard_split (fun h => ?_) (fun h => ?_) | with_reducible refine IfB_split (fun h => ?_) (fun h => ?_))
  refine (gr _).mono ?_
  rintro r1 H1 ⟨⟨bl, rfl, hbl⟩, rfl⟩
  cases bl with
  | true =>
    repeat' (first | simp only [go_sem, Nat.reduceLT, Nat.reduceEqDiff, Nat.reduceAdd, Nat.reduceMul, Nat.reduceSub, Nat.reduceLeDiff, Int.reduceToNat, Int.reduceNeg, Int.reduceLT, Int.reduceLE, Int.reduceEq, reduceCtorEq, Int.natCast_zero, Int.natCast_one, Int.cast_ofNat_Int, Bool.not_not, false_eq_decide, true_eq_decide, hread0, hreadk, read_cons0, read_consk, astore_h0, astore_hk, hget0, hgetk, hset0, hsetk, hlen, hcat, Nat.add_assoc, Nat.add_zero, Nat.zero_add, List.length_append, and_true, true_and, AV.flat, *, -hK, -rdy, -hin] | with_reducible refine IfB_dec (fun h => ?_) (fun h => ?_) | with_reducible refine Guard_dec (fun h => ?_) (fun h => ?_) | with_reducible refine Guard_ndec (fun h => ?_) (fun h => ?_) | with_reducible refine Guard_not (fun h => ?_) (fun h => ?_) | with_reducible refine IfB_ndec (fun h => ?_) (fun h => ?_) | with_reducible refine IfB_not (fun h => ?_) (fun h => ?_) | with_reducible refine Guard_split (fun h => ?_) (fun h => ?_) | with_reducible refine IfB_split (fun h => ?_) (fun h => ?_))
    exact hK _ _ rfl
  | false =>
  have hb := hbl rfl
  replace rdy := rdy hb
  clear gr hbl hin
  by_cases hq : q.may
  rotate_left
  · rw [queE_bad hq, show readyL q = [] by unfold readyL; rw [if_neg hq]] at rdy
    repeat' (first | simp only [go_sem, Nat.reduceLT, Nat.reduceEqDiff, Nat.reduceAdd, Nat.reduceMul, Nat.reduceSub, Nat.reduceLeDiff, Int.reduceToNat, Int.reduceNeg, Int.reduceLT, Int.reduceLE, Int.reduceEq, reduceCtorEq, Int.natCast_zero, Int.natCast_one, Int.cast_ofNat_Int, Bool.not_not, false_eq_decide, true_eq_decide, hread0, hreadk, read_cons0, read_consk, astore_h0, astore_hk, hget0, hgetk, hset0, hsetk, hlen, hcat, Nat.add_assoc, Nat.add_zero, Nat.zero_add, List.length_append, and_true, true_and, AV.flat, *, -hK, -rdy, -hb, -hq] | refine WC.call (rdy _) ?_ | with_reducible refine IfB_dec (fun h => ?_) (fun h => ?_) | with_reducible refine Guard_dec (fun h => ?_) (fun h => ?_) | with_reducible refine Guard_ndec (fun h => ?_) (fun h => ?_) | with_reducible refine Guard_not (fun h => ?_) (fun h => ?_) | with_reducible refine IfB_ndec (fun h => ?_) (fun h => ?_) | with_reducible refine IfB_not (fun h => ?_) (fun h => ?_) | with_reducible refine Guard_split (fun h => ?_) (fun h => ?_) | with_reducible refine IfB_split (fun h => ?_) (fun h => ?_))
    exact hK _ _ rfl
  rw [queE_ok hq, show readyL q = readyN q.bx q.bx.length by unfold readyL; rw [if_pos hq]] at rdy
  have hcalm := calm_plain hq
  have hl4 := hq.2.1
  have hrl := readyN_len q.bx q.bx.length
  obtain ⟨nx, bs⟩ := q
  simp only at rdy hcalm hl4 hrl
  generalize readyN bs bs.length = rs at *
  repeat' (first | simp only [go_sem, Nat.reduceLT, Nat.reduceEqDiff, Nat.reduceAdd, Nat.reduceMul, Nat.reduceSub, Nat.reduceLeDiff, Int.reduceToNat, Int.reduceNeg, Int.reduceLT, Int.reduceLE, Int.reduceEq, reduceCtorEq, Int.natCast_zero, Int.natCast_one, Int.cast_ofNat_Int, Bool.not_not, false_eq_decide, true_eq_decide, hread0, hreadk, read_cons0, read_consk, astore_h0, astore_hk, hget0, hgetk, hset0, hsetk, hlen, hcat, Nat.add_assoc, Nat.add_zero, Nat.zero_add, List.length_append, and_true, true_and, AV.flat, *, -hK, -rdy, -hb, -hq, -hcalm, -hrl] | refine WC.call (rdy _) ?_ | with_reducible refine IfB_dec (fun h => ?_) (fun h => ?_) | with_reducible refine Guard_dec (fun h => ?_) (fun h => ?_) | with_reducible refine Guard_ndec (fun h => ?_) (fun h => ?_) | with_reducible refine Guard_not (fun h => ?_) (fun h => ?_) | with_reducible refine IfB_ndec (fun h => ?_) (fun h => ?_) | with_reducible refine IfB_not (fun h => ?_) (fun h => ?_) | with_reducible refine Guard_split (fun h => ?_) (fun h => ?_) | with_reducible refine IfB_split (fun h => ?_) (fun h => ?_))
  generalize hG : (H ++ [(⟨[.int .i64 nx, boxE.lst bs], 0, .full⟩ : Blk)] : Heap) = G
  have g0 : G[H.length]? = some (⟨[.int .i64 nx, boxE.lst bs], 0, .full⟩ : Blk) := by rw [← hG, hget0]; rfl
  clear hG rdy hq hb
  refine WX_loopS [1, 4] (fun k fr' J => ∃ i : Nat, k = bs.length - i ∧ i ≤ bs.length ∧ fr'.get 8 = .int .i64 i ∧ fr'.get 6 = .int .i64 (eld bs i).1 ∧ fr'.get 7 = .int .i64 (eld bs i).2 ∧ J = G) bs.length ⟨0, rfl, by omega, by simp only [go_sem, Nat.reduceLT, Nat.reduceEqDiff, Nat.reduceAdd, Nat.reduceMul, Nat.reduceSub, Nat.reduceLeDiff, Int.reduceToNat, Int.reduceNeg, Int.reduceLT, Int.reduceLE, Int.reduceEq, reduceCtorEq]; rfl, by simp only [go_sem, Nat.reduceLT, Nat.reduceEqDiff, Nat.reduceAdd, Nat.reduceMul, Nat.reduceSub, Nat.reduceLeDiff, Int.reduceToNat, Int.reduceNeg, Int.reduceLT, Int.reduceLE, Int.reduceEq, reduceCtorEq]; rfl, by simp only [go_sem, Nat.reduceLT, Nat.reduceEqDiff, Nat.reduceAdd, Nat.reduceMul, Nat.reduceSub, Nat.reduceLeDiff, Int.reduceToNat, Int.reduceNeg, Int.reduceLT, Int.reduceLE, Int.reduceEq, reduceCtorEq]; rfl, rfl⟩ ?_
  rintro k fr' J A R hA hs hg hR ⟨i, rfl, hi, f8, f6, f7, rfl⟩
  have s1 := hg 1 (by decide)
  have s4 := hg 4 (by decide)
  simp only [Fr.get_put, Fr.get_init, List.getD_cons_zero, List.getD_cons_succ, Nat.reduceEqDiff, if_true, if_false] at s1 s4
  refine wx_sound hT _ ?_
  by_cases hlt : i < bs.length
  · have i1 : (i : Int) < bs.length := by omega
    have e3 := inc_id hlt (by omega)
    have e1 := at_enc (E := boxE) (T := T) (k := .i64) se22 hlt rfl
    rw [boxE_cells] at e1
    have he : eld bs (i + 1) = match bs[i] with
      | [] => eld bs i
      | t :: _ => if (eld bs i).2 < 0 ∨ t.num < (eld bs i).1 then (t.num, (i : Int)) else eld bs i := by rw [eld, List.getElem?_eq_getElem hlt]; rfl
    have back : ∀ fr2 J2, A fr2 → fr2.get 8 = .int .i64 ((i + 1 : Nat) : Int) → fr2.get 6 = .int .i64 (eld bs (i + 1)).1 → fr2.get 7 = .int .i64 (eld bs (i + 1)).2 → J2 = J → R fr2 J2 := fun fr2 J2 ha q1 q2 q3 q4 => hR fr2 J2 ha (bs.length - (i + 1)) (by omega) ⟨i + 1, rfl, by omega, q1, q2, q3, q4⟩
    rw [he] at back
    clear hR he
    generalize eld bs i = ew at *
    obtain ⟨ee, ww⟩ := ew
    generalize bs[i] = l at *
    cases l with
    | nil =>
      simp only at back f6 f7
      repeat' (first | simp only [go_sem, Nat.reduceLT, Nat.reduceEqDiff, Nat.reduceAdd, Nat.reduceMul, Nat.reduceSub, Nat.reduceLeDiff, Int.reduceToNat, Int.reduceNeg, Int.reduceLT, Int.reduceLE, Int.reduceEq, reduceCtorEq, Int.natCast_zero, Int.natCast_one, Int.cast_ofNat_Int, Bool.not_not, false_eq_decide, true_eq_decide, hread0, hreadk, read_cons0, read_consk, astore_h0, astore_hk, hget0, hgetk, hset0, hsetk, hlen, hcat, Nat.add_assoc, Nat.add_zero, Nat.zero_add, List.length_append, and_true, true_and, AV.flat, g0, get_app g0, read_get g0, read_app g0, *, -hK, -hcalm, -hrl, -back] | with_reducible refine IfB_dec (fun h => ?_) (fun h => ?_) | with_reducible refine Guard_dec (fun h => ?_) (fun h => ?_) | with_reducible refine Guard_ndec (fun h => ?_) (fun h => ?_) | with_reducible refine Guard_not (fun h => ?_) (fun h => ?_) | with_reducible refine IfB_ndec (fun h => ?_) (fun h => ?_) | with_reducible refine IfB_not (fun h => ?_) (fun h => ?_) | with_reducible refine Guard_split (fun h => ?_) (fun h => ?_) | with_reducible refine IfB_split (fun h => ?_) (fun h => ?_))
      exact back _ _ (by (repeat (first | exact hs | refine hA _ _ _ (by decide) ?_))) (by simp only [go_sem, Nat.reduceLT, Nat.reduceEqDiff, Nat.reduceAdd, Nat.reduceMul, Nat.reduceSub, Nat.reduceLeDiff, Int.reduceToNat, Int.reduceNeg, Int.reduceLT, Int.reduceLE, Int.reduceEq, reduceCtorEq]) (by simp only [go_sem, Nat.reduceLT, Nat.reduceEqDiff, Nat.reduceAdd, Nat.reduceMul, Nat.reduceSub, Nat.reduceLeDiff, Int.reduceToNat, Int.reduceNeg, Int.reduceLT, Int.reduceLE, Int.reduceEq, reduceCtorEq]; exact f6) (by simp only [go_sem, Nat.reduceLT, Nat.reduceEqDiff, Nat.reduceAdd, Nat.reduceMul, Nat.reduceSub, Nat.reduceLeDiff, Int.reduceToNat, Int.reduceNeg, Int.reduceLT, Int.reduceLE, Int.reduceEq, reduceCtorEq]; exact f7) rfl
    | cons t l =>
      simp only at back f6 f7
      have e2 := at_enc (E := tktE) (T := T) (xs := t :: l) (i := 0) (k := .i64) (z := 0) se31 (by simp) rfl
      rw [tktE_cells] at e2
      simp only [List.getElem_cons_zero] at e2
      have hlen : ((t :: l).length : Int) > 0 := by simp only [List.length_cons]; omega
      generalize t :: l = tl at *
      by_cases hw : ww < 0
      · rw [if_pos (.inl hw)] at back
        repeat' (first | simp only [go_sem, Nat.reduceLT, Nat.reduceEqDiff, Nat.reduceAdd, Nat.reduceMul, Nat.reduceSub, Nat.reduceLeDiff, Int.reduceToNat, Int.reduceNeg, Int.reduceLT, Int.reduceLE, Int.reduceEq, reduceCtorEq, Int.natCast_zero, Int.natCast_one, Int.cast_ofNat_Int, Bool.not_not, false_eq_decide, true_eq_decide, hread0, hreadk, read_cons0, read_consk, astore_h0, astore_hk, hget0, hgetk, hset0, hsetk, hlen, hcat, Nat.add_assoc, Nat.add_zero, Nat.zero_add, List.length_append, and_true, true_and, AV.flat, g0, get_app g0, read_get g0, read_app g0, *, -hK, -hcalm, -hrl, -back] | with_reducible refine IfB_dec (fun h => ?_) (fun h => ?_) | with_reducible refine Guard_dec (fun h => ?_) (fun h => ?_) | with_reducible refine Guard_ndec (fun h => ?_) (fun h => ?_) | with_reducible refine Guard_not (fun h => ?_) (fun h => ?_) | with_reducible refine IfB_ndec (fun h => ?_) (fun h => ?_) | with_reducible refine IfB_not (fun h => ?_) (fun h => ?_) | with_reducible refine Guard_split (fun h => ?_) (fun h => ?_) | with_reducible refine IfB_split (fun h => ?_) (fun h => ?_))
        exact back _ _ (by (repeat (first | exact hs | refine hA _ _ _ (by decide) ?_))) (by simp only [go_sem, Nat.reduceLT, Nat.reduceEqDiff, Nat.reduceAdd, Nat.reduceMul, Nat.reduceSub, Nat.reduceLeDiff, Int.reduceToNat, Int.reduceNeg, Int.reduceLT, Int.reduceLE, Int.reduceEq, reduceCtorEq]) (by simp only [go_sem, Nat.reduceLT, Nat.reduceEqDiff, Nat.reduceAdd, Nat.reduceMul, Nat.reduceSub, Nat.reduceLeDiff, Int.reduceToNat, Int.reduceNeg, Int.reduceLT, Int.reduceLE, Int.reduceEq, reduceCtorEq]) (by simp only [go_sem, Nat.reduceLT, Nat.reduceEqDiff, Nat.reduceAdd, Nat.reduceMul, Nat.reduceSub, Nat.reduceLeDiff, Int.reduceToNat, Int.reduceNeg, Int.reduceLT, Int.reduceLE, Int.reduceEq, reduceCtorEq]) rfl
      · by_cases hn : t.num < ee
        · rw [if_pos (.inr hn)] at back
          repeat' (first | simp only [go_sem, Nat.reduceLT, Nat.reduceEqDiff, Nat.reduceAdd, Nat.reduceMul, Nat.reduceSub, Nat.reduceLeDiff, Int.reduceToNat, Int.reduceNeg, Int.reduceLT, Int.reduceLE, Int.reduceEq, reduceCtorEq, Int.natCast_zero, Int.natCast_one, Int.cast_ofNat_Int, Bool.not_not, false_eq_decide, true_eq_decide, hread0, hreadk, read_cons0, read_consk, astore_h0, astore_hk, hget0, hgetk, hset0, hsetk, hlen, hcat, Nat.add_assoc, Nat.add_zero, Nat.zero_add, List.length_append, and_true, true_and, AV.flat, g0, get_app g0, read_get g0, read_app g0, *, -hK, -hcalm, -hrl, -back] | with_reducible refine IfB_dec (fun h => ?_) (fun h => ?_) | with_reducible refine Guard_dec (fun h => ?_) (fun h => ?_) | with_reducible refine Guard_ndec (fun h => ?_) (fun h => ?_) | with_reducible refine Guard_not (fun h => ?_) (fun h => ?_) | with_reducible refine IfB_ndec (fun h => ?_) (fun h => ?_) | with_reducible refine IfB_not (fun h => ?_) (fun h => ?_) | with_reducible refine Guard_split (fun h => ?_) (fun h => ?_) | with_reducible refine IfB_split (fun h => ?_) (fun h => ?_))
          exact back _ _ (by (repeat (first | exact hs | refine hA _ _ _ (by decide) ?_))) (by simp only [go_sem, Nat.reduceLT, Nat.reduceEqDiff, Nat.reduceAdd, Nat.reduceMul, Nat.reduceSub, Nat.reduceLeDiff, Int.reduceToNat, Int.reduceNeg, Int.reduceLT, Int.reduceLE, Int.reduceEq, reduceCtorEq]) (by simp only [go_sem, Nat.reduceLT, Nat.reduceEqDiff, Nat.reduceAdd, Nat.reduceMul, Nat.reduceSub, Nat.reduceLeDiff, Int.reduceToNat, Int.reduceNeg, Int.reduceLT, Int.reduceLE, Int.reduceEq, reduceCtorEq]) (by simp only [go_sem, Nat.reduceLT, Nat.reduceEqDiff, Nat.reduceAdd, Nat.reduceMul, Nat.reduceSub, Nat.reduceLeDiff, Int.reduceToNat, Int.reduceNeg, Int.reduceLT, Int.reduceLE, Int.reduceEq, reduceCtorEq]) rfl
        · rw [if_neg (by omega)] at back
          repeat' (first | simp only [go_sem, Nat.reduceLT, Nat.reduceEqDiff, Nat.reduceAdd, Nat.reduceMul, Nat.reduceSub, Nat.reduceLeDiff, Int.reduceToNat, Int.reduceNeg, Int.reduceLT, Int.reduceLE, Int.reduceEq, reduceCtorEq, Int.natCast_zero, Int.natCast_one, Int.cast_ofNat_Int, Bool.not_not, false_eq_decide, true_eq_decide, hread0, hreadk, read_cons0, read_consk, astore_h0, astore_hk, hget0, hgetk, hset0, hsetk, hlen, hcat, Nat.add_assoc, Nat.add_zero, Nat.zero_add, List.length_append, and_true, true_and, AV.flat, g0, get_app g0, read_get g0, read_app g0, *, -hK, -hcalm, -hrl, -back] | with_reducible refine IfB_dec (fun h => ?_) (fun h => ?_) | with_reducible refine Guard_dec (fun h => ?_) (fun h => ?_) | with_reducible refine Guard_ndec (fun h => ?_) (fun h => ?_) | with_reducible refine Guard_not (fun h => ?_) (fun h => ?_) | with_reducible refine IfB_ndec (fun h => ?_) (fun h => ?_) | with_reducible refine IfB_not (fun h => ?_) (fun h => ?_) | with_reducible refine Guard_split (fun h => ?_) (fun h => ?_) | with_reducible refine IfB_split (fun h => ?_) (fun h => ?_))
          exact back _ _ (by (repeat (first | exact hs | refine hA _ _ _ (by decide) ?_))) (by simp only [go_sem, Nat.reduceLT, Nat.reduceEqDiff, Nat.reduceAdd, Nat.reduceMul, Nat.reduceSub, Nat.reduceLeDiff, Int.reduceToNat, Int.reduceNeg, Int.reduceLT, Int.reduceLE, Int.reduceEq, reduceCtorEq]) (by simp only [go_sem, Nat.reduceLT, Nat.reduceEqDiff, Nat.reduceAdd, Nat.reduceMul, Nat.reduceSub, Nat.reduceLeDiff, Int.reduceToNat, Int.reduceNeg, Int.reduceLT, Int.reduceLE, Int.reduceEq, reduceCtorEq]; exact f6) (by simp only [go_sem, Nat.reduceLT, Nat.reduceEqDiff, Nat.reduceAdd, Nat.reduceMul, Nat.reduceSub, Nat.reduceLeDiff, Int.reduceToNat, Int.reduceNeg, Int.reduceLT, Int.reduceLE, Int.reduceEq, reduceCtorEq]; exact f7) rfl
  have i1 : ¬ (i : Int) < bs.length := by omega
  have hie : i = bs.length := by omega
  rw [hie] at f6 f7
  generalize eld bs bs.length = ew at *
  obtain ⟨ee, ww⟩ := ew
  simp only at f6 f7 hcalm
  clear hR
  repeat' (first | simp only [go_sem, Nat.reduceLT, Nat.reduceEqDiff, Nat.reduceAdd, Nat.reduceMul, Nat.reduceSub, Nat.reduceLeDiff, Int.reduceToNat, Int.reduceNeg, Int.reduceLT, Int.reduceLE, Int.reduceEq, reduceCtorEq, Int.natCast_zero, Int.natCast_one, Int.cast_ofNat_Int, Bool.not_not, false_eq_decide, true_eq_decide, hread0, hreadk, read_cons0, read_consk, astore_h0, astore_hk, hget0, hgetk, hset0, hsetk, hlen, hcat, Nat.add_assoc, Nat.add_zero, Nat.zero_add, List.length_append, and_true, true_and, AV.flat, g0, get_app g0, read_get g0, read_app g0, *, -hK, -hcalm, -hrl, -hie, -hlt] | with_reducible refine IfB_dec (fun h => ?_) (fun h => ?_) | with_reducible refine Guard_dec (fun h => ?_) (fun h => ?_) | with_reducible refine Guard_ndec (fun h => ?_) (fun h => ?_) | with_reducible refine Guard_not (fun h => ?_) (fun h => ?_) | with_reducible refine IfB_ndec (fun h => ?_) (fun h => ?_) | with_reducible refine IfB_not (fun h => ?_) (fun h => ?_) | with_reducible refine Guard_split (fun h => ?_) (fun h => ?_) | with_reducible refine IfB_split (fun h => ?_) (fun h => ?_))
  have o1 := s1
  have o7 := f7
  refine WX_loopS [4, 7] (fun k fr' J2 => ∃ (z : Nat), k = rs.length - z ∧ z ≤ rs.length ∧ fr'.get 10 = .int .i64 z ∧ fr'.get 9 = .bool (decide (ww ∈ rs.take z)) ∧ J2 = J) rs.length ⟨0, rfl, by omega, by simp only [go_sem, Nat.reduceLT, Nat.reduceEqDiff, Nat.reduceAdd, Nat.reduceMul, Nat.reduceSub, Nat.reduceLeDiff, Int.reduceToNat, Int.reduceNeg, Int.reduceLT, Int.reduceLE, Int.reduceEq, reduceCtorEq]; rfl, by simp only [go_sem, Nat.reduceLT, Nat.reduceEqDiff, Nat.reduceAdd, Nat.reduceMul, Nat.reduceSub, Nat.reduceLeDiff, Int.reduceToNat, Int.reduceNeg, Int.reduceLT, Int.reduceLE, Int.reduceEq, reduceCtorEq]; simp, rfl⟩ ?_
  rintro k fr2 J2 A2 R2 hA hs hg hR2 ⟨z, rfl, hz, f10, f9, rfl⟩
  have s4 := hg 4 (by decide)
  have s7 := hg 7 (by decide)
  simp only [Fr.get_put, Fr.get_init, List.getD_cons_zero, List.getD_cons_succ, Nat.reduceEqDiff, if_true, if_false] at s4 s7
  refine wx_sound hT _ ?_
  by_cases hlz : z < rs.length
  · have i6 : (z : Int) < rs.length := by omega
    have e7 := inc_id hlz (by omega)
    have e8 := at_enc (E := Enc.int .i64) (T := T) (k := .i64) se27 hlz rfl
    rw [int_cells] at e8
    have hms : decide (ww ∈ rs.take (z + 1)) = (decide (ww ∈ rs.take z) || decide (rs[z] = ww)) := by
      rw [List.take_succ_eq_append_getElem hlz, Bool.eq_iff_iff]
      simp only [decide_eq_true_eq, Bool.or_eq_true, List.mem_append, List.mem_singleton]
      exact or_congr Iff.rfl eq_comm
    have back2 : ∀ fr2 J3, A2 fr2 → fr2.get 10 = .int .i64 ((z + 1 : Nat) : Int) → fr2.get 9 = .bool (decide (ww ∈ rs.take z) || decide (rs[z] = ww)) → J3 = J2 → R2 fr2 J3 := fun fr2 J3 ha j1 j2 j3 => hR2 fr2 J3 ha (rs.length - (z + 1)) (by omega) ⟨z + 1, rfl, by omega, j1, by rw [hms]; exact j2, j3⟩
    clear hR2 hms
    generalize rs[z] = x at *
    generalize decide (ww ∈ rs.take z) = td at *
    cases td with
    | true =>
      rw [Bool.true_or] at back2
      repeat' (first | simp only [go_sem, Nat.reduceLT, Nat.reduceEqDiff, Nat.reduceAdd, Nat.reduceMul, Nat.reduceSub, Nat.reduceLeDiff, Int.reduceToNat, Int.reduceNeg, Int.reduceLT, Int.reduceLE, Int.reduceEq, reduceCtorEq, Int.natCast_zero, Int.natCast_one, Int.cast_ofNat_Int, Bool.not_not, false_eq_decide, true_eq_decide, hread0, hreadk, read_cons0, read_consk, astore_h0, astore_hk, hget0, hgetk, hset0, hsetk, hlen, hcat, Nat.add_assoc, Nat.add_zero, Nat.zero_add, List.length_append, and_true, true_and, AV.flat, *, -hK, -hcalm, -hrl, -hie, -hlt, -back2] | with_reducible refine IfB_dec (fun h => ?_) (fun h => ?_) | with_reducible refine Guard_dec (fun h => ?_) (fun h => ?_) | with_reducible refine Guard_ndec (fun h => ?_) (fun h => ?_) | with_reducible refine Guard_not (fun h => ?_) (fun h => ?_) | with_reducible refine IfB_ndec (fun h => ?_) (fun h => ?_) | with_reducible refine IfB_not (fun h => ?_) (fun h => ?_) | with_reducible refine Guard_split (fun h => ?_) (fun h => ?_) | with_reducible refine IfB_split (fun h => ?_) (fun h => ?_))
      exact back2 _ _ (by (repeat (first | exact hs | refine hA _ _ _ (by decide) ?_))) (by simp only [go_sem, Nat.reduceLT, Nat.reduceEqDiff, Nat.reduceAdd, Nat.reduceMul, Nat.reduceSub, Nat.reduceLeDiff, Int.reduceToNat, Int.reduceNeg, Int.reduceLT, Int.reduceLE, Int.reduceEq, reduceCtorEq]) (by simp only [go_sem, Nat.reduceLT, Nat.reduceEqDiff, Nat.reduceAdd, Nat.reduceMul, Nat.reduceSub, Nat.reduceLeDiff, Int.reduceToNat, Int.reduceNeg, Int.reduceLT, Int.reduceLE, Int.reduceEq, reduceCtorEq]) rfl
    | false =>
      rw [Bool.false_or] at back2
      repeat' (first | simp only [go_sem, Nat.reduceLT, Nat.reduceEqDiff, Nat.reduceAdd, Nat.reduceMul, Nat.reduceSub, Nat.reduceLeDiff, Int.reduceToNat, Int.reduceNeg, Int.reduceLT, Int.reduceLE, Int.reduceEq, reduceCtorEq, Int.natCast_zero, Int.natCast_one, Int.cast_ofNat_Int, Bool.not_not, false_eq_decide, true_eq_decide, hread0, hreadk, read_cons0, read_consk, astore_h0, astore_hk, hget0, hgetk, hset0, hsetk, hlen, hcat, Nat.add_assoc, Nat.add_zero, Nat.zero_add, List.length_append, and_true, true_and, AV.flat, *, -hK, -hcalm, -hrl, -hie, -hlt, -back2] | with_reducible refine IfB_dec (fun h => ?_) (fun h => ?_) | with_reducible refine Guard_dec (fun h => ?_) (fun h => ?_) | with_reducible refine Guard_ndec (fun h => ?_) (fun h => ?_) | with_reducible refine Guard_not (fun h => ?_) (fun h => ?_) | with_reducible refine IfB_ndec (fun h => ?_) (fun h => ?_) | with_reducible refine IfB_not (fun h => ?_) (fun h => ?_) | with_reducible refine Guard_split (fun h => ?_) (fun h => ?_) | with_reducible refine IfB_split (fun h => ?_) (fun h => ?_))
      exact back2 _ _ (by (repeat (first | exact hs | refine hA _ _ _ (by decide) ?_))) (by simp only [go_sem, Nat.reduceLT, Nat.reduceEqDiff, Nat.reduceAdd, Nat.reduceMul, Nat.reduceSub, Nat.reduceLeDiff, Int.reduceToNat, Int.reduceNeg, Int.reduceLT, Int.reduceLE, Int.reduceEq, reduceCtorEq]) (by simp only [go_sem, Nat.reduceLT, Nat.reduceEqDiff, Nat.reduceAdd, Nat.reduceMul, Nat.reduceSub, Nat.reduceLeDiff, Int.reduceToNat, Int.reduceNeg, Int.reduceLT, Int.reduceLE, Int.reduceEq, reduceCtorEq]) rfl
  have i6 : ¬ (z : Int) < rs.length := by omega
  have hze : z = rs.length := by omega
  rw [hze, List.take_length, hcalm] at f9
  by_cases hw0 : ww ≥ 0
  · rw [decide_eq_true hw0] at f9
    repeat' (first | simp only [go_sem, Nat.reduceLT, Nat.reduceEqDiff, Nat.reduceAdd, Nat.reduceMul, Nat.reduceSub, Nat.reduceLeDiff, Int.reduceToNat, Int.reduceNeg, Int.reduceLT, Int.reduceLE, Int.reduceEq, reduceCtorEq, Int.natCast_zero, Int.natCast_one, Int.cast_ofNat_Int, Bool.not_not, false_eq_decide, true_eq_decide, hread0, hreadk, read_cons0, read_consk, astore_h0, astore_hk, hget0, hgetk, hset0, hsetk, hlen, hcat, Nat.add_assoc, Nat.add_zero, Nat.zero_add, List.length_append, and_true, true_and, AV.flat, *, -hK, -hcalm, -hrl, -hie, -hlt, -hze, -hlz] | with_reducible refine IfB_dec (fun h => ?_) (fun h => ?_) | with_reducible refine Guard_dec (fun h => ?_) (fun h => ?_) | with_reducible refine Guard_ndec (fun h => ?_) (fun h => ?_) | with_reducible refine Guard_not (fun h => ?_) (fun h => ?_) | with_reducible refine IfB_ndec (fun h => ?_) (fun h => ?_) | with_reducible refine IfB_not (fun h => ?_) (fun h => ?_) | with_reducible refine Guard_split (fun h => ?_) (fun h => ?_) | with_reducible refine IfB_split (fun h => ?_) (fun h => ?_))
    exact hK _ _ rfl
  · rw [decide_eq_false hw0] at f9
    repeat' (first | simp only [go_sem, Nat.reduceLT, Nat.reduceEqDiff, Nat.reduceAdd, Nat.reduceMul, Nat.reduceSub, Nat.reduceLeDiff, Int.reduceToNat, Int.reduceNeg, Int.reduceLT, Int.reduceLE, Int.reduceEq, reduceCtorEq, Int.natCast_zero, Int.natCast_one, Int.cast_ofNat_Int, Bool.not_not, false_eq_decide, true_eq_decide, hread0, hreadk, read_cons0, read_consk, astore_h0, astore_hk, hget0, hgetk, hset0, hsetk, hlen, hcat, Nat.add_assoc, Nat.add_zero, Nat.zero_add, List.length_append, and_true, true_and, AV.flat, *, -hK, -hcalm, -hrl, -hie, -hlt, -hze, -hlz] | with_reducible refine IfB_dec (fun h => ?_) (fun h => ?_) | with_reducible refine Guard_dec (fun h => ?_) (fun h => ?_) | with_reducible refine Guard_ndec (fun h => ?_) (fun h => ?_) | with_reducible refine Guard_not (fun h => ?_) (fun h => ?_) | with_reducible refine IfB_ndec (fun h => ?_) (fun h => ?_) | with_reducible refine IfB_not (fun h => ?_) (fun h => ?_) | with_reducible refine Guard_split (fun h => ?_) (fun h => ?_) | with_reducible refine IfB_split (fun h => ?_) (fun h => ?_))
    exact hK _ _ rfl
end Go.Proofs.Ytkmkhiipiflelaa
