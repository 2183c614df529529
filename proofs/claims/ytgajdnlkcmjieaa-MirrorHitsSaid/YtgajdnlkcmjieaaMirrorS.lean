import Derived.Test.YtgajdnlkcmjieaaMirrorR
import Derived.Test.YtgajdnlkcmjieaaPiV
set_option linter.unusedSimpArgs false
set_option linter.unusedVariables false
set_option maxRecDepth 100000
set_option maxHeartbeats 4000000
namespace Go.Proofs.Ytgajdnlkcmjieaa
open Go Go.Proofs Go.Proofs.PI
theorem u8_wfi {v : Int} (h : (Lit.int .u8 v).wf = true) : 0 ≤ v ∧ v < 256 := by
  obtain ⟨b, rfl⟩ := u8_wf h
  have := b.toNat_lt; omega
theorem inp_acts {n : Nat} {a : AV} (h : InpPV T (n + 4) 55 a) : ∃ l : List Act, a = actE.lst l ∧ (∀ x ∈ l, x.Ok) ∧ l.length ≤ 140737488355328 := by
  obtain ⟨xs, rfl, ho, -, hd⟩ := InpPV.slice (E := actE) (Pr := Act.Ok) tk55 (fun x hx => by
    obtain ⟨parts, rfl, hl, hp⟩ := InpP.struct tk57 hx
    obtain ⟨p0, p1, p2, p3, rfl⟩ := len4 hl
    obtain ⟨s0, rfl, w0⟩ := InpP.int tk5 (hp 0 _ _ rfl rfl)
    obtain ⟨s1, rfl, -⟩ := InpP.str tk9 (hp 1 _ _ rfl rfl)
    obtain ⟨s2, rfl, -⟩ := InpP.str tk9 (hp 2 _ _ rfl rfl)
    obtain ⟨s3, rfl, -⟩ := InpP.int tk3 (hp 3 _ _ rfl rfl)
    exact ⟨⟨s0, s1, s2, s3⟩, rfl, u8_wfi w0⟩) h
  exact ⟨xs, rfl, ho, by have : xs.length * 48 ≤ reachBytes := hd _ td57; unfold reachBytes at this; omega⟩
theorem last_lent {m : Nat} {H : Heap} {v : AV} {d : List Act} (h : OwnE actE m H v d) (hd : ∀ a ∈ d, a.Ok) (k : List UInt8) (now : Int) (hn : d.length ≤ 1000) : WC Try.prog 27 [v, .str k, .int .i64 now] H fun r H' => r = .tup [(lastR d k now).1.av, .bool (lastR d k now).2] ∧ H' = H :=
  WC_lend_val (args := [v, .str k, .int .i64 now]) (args' := [actE.lst d, .str k, .int .i64 now]) ⟨(h.thaw (by decide)).mono (Nat.zero_le _), .str _, .int _ _, trivial⟩ (.tup _ (Nofz.row fun x hx => by
    simp only [List.mem_cons, List.not_mem_nil, or_false] at hx
    rcases hx with rfl | rfl
    · exact .agg _ (Nofz.row fun y hy => by
        simp only [List.mem_cons, List.not_mem_nil, or_false] at hy; rcases hy with rfl | rfl | rfl | rfl | rfl <;> exact .cell _ rfl)
    · exact .cell _ rfl)) (fun J => last_spec d hd k now hn J)
theorem keys_lent {m : Nat} {H : Heap} {v : AV} {d : List Act} (h : OwnE actE m H v d) (hd : ∀ a ∈ d, a.Ok) (hn : d.length ≤ 1000) : WC Try.prog 28 [v] H fun r H' => r = .int .i64 (keysL d) ∧ H' = H :=
  WC_lend_val (args := [v]) (args' := [actE.lst d]) ⟨(h.thaw (by decide)).mono (Nat.zero_le _), trivial⟩ (.cell _ rfl) (fun J => keys_spec d hd hn J)
theorem vs_at {X : Heap} {b : Nat} {cs : List AV} {sz : Nat} {st : St} (hb : X[b]? = some ⟨cs, sz, st⟩) (hal : st.alive = true) (hl : cs.length = 1 * sz) : Vs X (.sl b 0 1 none) sz 1 cs :=
  ⟨hl, .inr (.inr ⟨b, 0, none, _, rfl, by simp, hb, hal, fun _ => rfl, by simp; omega, by rw [Nat.one_mul] at hl ⊢; rw [List.drop_zero, ← hl, List.take_length]⟩)⟩
theorem Keep.of_set {H G : Heap} {p : Nat} {B : Blk} (h : G = List.set H p B) : Keep (some p) H G := by
  subst h
  exact ⟨by simp, fun b hb hp => List.getElem?_set_ne fun e => hp (by rw [e])⟩
def pushP (m : Mir) (k : List UInt8) : Mir × Int := (pushL m k, askE m k)
theorem pushP_spec (m : Mir) (k : List UInt8) (hn : m.items.length ≤ 100000) (H : Heap) : WC Try.prog 16 [m.av, .str k] H fun r H' => r = .tup [(pushP m k).1.av, .int .i64 (pushP m k).2] ∧ H' = H := push_spec m k hn H
theorem mirrorHits_walk (avs : List AV) (h : InpPAll T 9 [3, 55, 9] avs) : WC Try.prog 6 avs [] fun v _ => v = .bool true := by
  obtain ⟨a0, _, rfl, h0, h⟩ := h.cons
  obtain ⟨a1, _, rfl, h1, h⟩ := h.cons
  obtain ⟨a2, _, rfl, h2, h⟩ := h.cons
  obtain rfl := h.nil
  obtain ⟨now, rfl, -⟩ := InpPV.int tk3 h0
  obtain ⟨l, rfl, ho, hn⟩ := inp_acts h1
  obtain ⟨key, rfl, hkl⟩ := InpPV.str tk9 h2
  clear h0 h1 h2 h
  generalize ([] : Heap) = H
  refine WC_of_K fun K hK => ?_
  have nw := fun J => new_spec now J
  have hnew := hinv_new (now := now)
  generalize newL now = nm at *
  obtain ⟨⟨mi, mn, mc⟩, e⟩ := nm
  unfold Mir.av at nw
  simp only at nw hnew
  refine WC_of_body hT Try.func6 rfl (by simp [Try.f6]) (by simp [Try.f6]) (wx_sound hT _ ?_)
  simp only [Try.f6]
  by_cases he : e = 0
  rotate_left
  · repeat' (first | simp only [go_sem, Nat.reduceLT, Nat.reduceEqDiff, Nat.reduceAdd, Nat.reduceMul, Nat.reduceSub, Nat.reduceLeDiff, Int.reduceToNat, Int.reduceNeg, Int.reduceLT, Int.reduceLE, Int.reduceEq, reduceCtorEq, Int.natCast_zero, Int.natCast_one, Int.cast_ofNat_Int, Bool.not_not, false_eq_decide, true_eq_decide, hread0, hreadk, read_cons0, read_consk, astore_h0, astore_hk, hget0, hgetk, hset0, hsetk, hlen, hcat, Nat.add_assoc, Nat.add_zero, Nat.zero_add, List.length_append, and_true, true_and, AV.flat, *, -hK, -nw, -hnew, -ho] | refine WC.call (alive_spec _) ?_ | refine WC.call (nw _) ?_ | with_reducible refine IfB_dec (fun h => ?_) (fun h => ?_) | with_reducible refine Guard_dec (fun h => ?_) (fun h => ?_) | with_reducible refine Guard_ndec (fun h => ?_) (fun h => ?_) | with_reducible refine Guard_not (fun h => ?_) (fun h => ?_) | with_reducible refine IfB_ndec (fun h => ?_) (fun h => ?_) | with_reducible refine IfB_not (fun h => ?_) (fun h => ?_) | with_reducible refine Guard_split (fun h => ?_) (fun h => ?_) | with_reducible refine IfB_split (fun h => ?_) (fun h => ?_))
    exact hK _ _ rfl
  subst he
  have hnew := hnew rfl
  by_cases i1 : (l.length : Int) > 60
  · skip
    repeat' (first | simp only [go_sem, Nat.reduceLT, Nat.reduceEqDiff, Nat.reduceAdd, Nat.reduceMul, Nat.reduceSub, Nat.reduceLeDiff, Int.reduceToNat, Int.reduceNeg, Int.reduceLT, Int.reduceLE, Int.reduceEq, reduceCtorEq, Int.natCast_zero, Int.natCast_one, Int.cast_ofNat_Int, Bool.not_not, false_eq_decide, true_eq_decide, hread0, hreadk, read_cons0, read_consk, astore_h0, astore_hk, hget0, hgetk, hset0, hsetk, hlen, hcat, Nat.add_assoc, Nat.add_zero, Nat.zero_add, List.length_append, and_true, true_and, AV.flat, *, -hK, -nw, -hnew, -ho] | refine WC.call (alive_spec _) ?_ | refine WC.call (nw _) ?_ | with_reducible refine IfB_dec (fun h => ?_) (fun h => ?_) | with_reducible refine Guard_dec (fun h => ?_) (fun h => ?_) | with_reducible refine Guard_ndec (fun h => ?_) (fun h => ?_) | with_reducible refine Guard_not (fun h => ?_) (fun h => ?_) | with_reducible refine IfB_ndec (fun h => ?_) (fun h => ?_) | with_reducible refine IfB_not (fun h => ?_) (fun h => ?_) | with_reducible refine Guard_split (fun h => ?_) (fun h => ?_) | with_reducible refine IfB_split (fun h => ?_) (fun h => ?_))
    exact hK _ _ rfl
  by_cases i2 : (key.length : Int) > 1000
  · skip
    repeat' (first | simp only [go_sem, Nat.reduceLT, Nat.reduceEqDiff, Nat.reduceAdd, Nat.reduceMul, Nat.reduceSub, Nat.reduceLeDiff, Int.reduceToNat, Int.reduceNeg, Int.reduceLT, Int.reduceLE, Int.reduceEq, reduceCtorEq, Int.natCast_zero, Int.natCast_one, Int.cast_ofNat_Int, Bool.not_not, false_eq_decide, true_eq_decide, hread0, hreadk, read_cons0, read_consk, astore_h0, astore_hk, hget0, hgetk, hset0, hsetk, hlen, hcat, Nat.add_assoc, Nat.add_zero, Nat.zero_add, List.length_append, and_true, true_and, AV.flat, *, -hK, -nw, -hnew, -ho] | refine WC.call (alive_spec _) ?_ | refine WC.call (nw _) ?_ | with_reducible refine IfB_dec (fun h => ?_) (fun h => ?_) | with_reducible refine Guard_dec (fun h => ?_) (fun h => ?_) | with_reducible refine Guard_ndec (fun h => ?_) (fun h => ?_) | with_reducible refine Guard_not (fun h => ?_) (fun h => ?_) | with_reducible refine IfB_ndec (fun h => ?_) (fun h => ?_) | with_reducible refine IfB_not (fun h => ?_) (fun h => ?_) | with_reducible refine Guard_split (fun h => ?_) (fun h => ?_) | with_reducible refine IfB_split (fun h => ?_) (fun h => ?_))
    exact hK _ _ rfl
  repeat' (first | simp only [go_sem, Nat.reduceLT, Nat.reduceEqDiff, Nat.reduceAdd, Nat.reduceMul, Nat.reduceSub, Nat.reduceLeDiff, Int.reduceToNat, Int.reduceNeg, Int.reduceLT, Int.reduceLE, Int.reduceEq, reduceCtorEq, Int.natCast_zero, Int.natCast_one, Int.cast_ofNat_Int, Bool.not_not, false_eq_decide, true_eq_decide, hread0, hreadk, read_cons0, read_consk, astore_h0, astore_hk, hget0, hgetk, hset0, hsetk, hlen, hcat, Nat.add_assoc, Nat.add_zero, Nat.zero_add, List.length_append, and_true, true_and, AV.flat, *, -hK, -nw, -hnew, -ho] | refine WC.call (alive_spec _) ?_ | refine WC.call (nw _) ?_ | with_reducible refine IfB_dec (fun h => ?_) (fun h => ?_) | with_reducible refine Guard_dec (fun h => ?_) (fun h => ?_) | with_reducible refine Guard_ndec (fun h => ?_) (fun h => ?_) | with_reducible refine Guard_not (fun h => ?_) (fun h => ?_) | with_reducible refine IfB_ndec (fun h => ?_) (fun h => ?_) | with_reducible refine IfB_not (fun h => ?_) (fun h => ?_) | with_reducible refine Guard_split (fun h => ?_) (fun h => ?_) | with_reducible refine IfB_split (fun h => ?_) (fun h => ?_))
  refine WX_loopS [1, 2, 7, 8] (fun q fr' H' => ∃ (i : Nat) (v : AV) (d : List Act) (m : Mir), q = l.length - i ∧ i ≤ l.length ∧ fr'.get 11 = .int .i64 i ∧ fr'.get 10 = v ∧ H'[H.length]? = some ⟨[itemE.lst m.items, .int .i64 m.now, .bool m.closed], 0, .full⟩ ∧ OwnE actE (H.length + 1) H' v d ∧ HInv m d ∧ d.length ≤ i ∧ (∀ a ∈ d, a.Ok)) l.length ⟨0, .nils, [], ⟨mi, mn, mc⟩, rfl, by omega, by simp only [go_sem, Nat.reduceLT, Nat.reduceEqDiff, Nat.reduceAdd, Nat.reduceMul, Nat.reduceSub, Nat.reduceLeDiff, Int.reduceToNat, Int.reduceNeg, Int.reduceLT, Int.reduceLE, Int.reduceEq, reduceCtorEq]; rfl, by simp only [go_sem, Nat.reduceLT, Nat.reduceEqDiff, Nat.reduceAdd, Nat.reduceMul, Nat.reduceSub, Nat.reduceLeDiff, Int.reduceToNat, Int.reduceNeg, Int.reduceLT, Int.reduceLE, Int.reduceEq, reduceCtorEq], by rw [hget0]; rfl, OwnE.nils _ _ _, hnew, Nat.le_refl _, by simp⟩ ?_
  clear nw hnew
  rintro q fr' H1 A R hA hs hg hR ⟨i, v, d, m, rfl, hi, f11, fv, g0, ov, hinv, hdl, hdo⟩
  have s1 := hg 1 (by decide)
  have s2 := hg 2 (by decide)
  have s7 := hg 7 (by decide)
  have s8 := hg 8 (by decide)
  simp only [Fr.get_put, Fr.get_init, List.getD_cons_zero, List.getD_cons_succ, Nat.reduceEqDiff, if_true, if_false] at s1 s2 s7 s8
  refine wx_sound hT _ ?_
  have hl0 := (List.getElem?_eq_some_iff.1 g0).1
  have hv := ov.one
  have hm32 := hinv.good.len
  by_cases hlt : i < l.length
  rotate_left
  · have i3 : ¬ (i : Int) < l.length := by omega
    clear hR
    have gs := fun J => get_spec m key (by omega) J
    have la := fun L => last_lent (ov.keep0 (Keep.app none H1 L)) hdo key m.now (by omega)
    have ke := fun L => keys_lent (ov.keep0 (Keep.app none H1 L)) hdo (by omega)
    have hend := hinv_end (k := key) hinv
    unfold Mir.av at gs
    by_cases ha : askE m key = 0
    rotate_left
    · have hgn : getL m key = none := by unfold getL; rw [if_neg ha]
      have h3 : askE m key = 3 := by
        unfold askE at ha ⊢
        rw [(checkE_iff m).2 hinv.good] at ha ⊢
        rw [if_neg (by simp)] at ha ⊢
        cases hkb : keyB key with
        | true => rw [hkb] at ha; exact absurd rfl ha
        | false => rfl
      rw [hgn, h3] at gs
      simp only [optAv, item0, Option.isSome] at gs
      repeat' (first | simp only [go_sem, Nat.reduceLT, Nat.reduceEqDiff, Nat.reduceAdd, Nat.reduceMul, Nat.reduceSub, Nat.reduceLeDiff, Int.reduceToNat, Int.reduceNeg, Int.reduceLT, Int.reduceLE, Int.reduceEq, reduceCtorEq, Int.natCast_zero, Int.natCast_one, Int.cast_ofNat_Int, Bool.not_not, false_eq_decide, true_eq_decide, hread0, hreadk, read_cons0, read_consk, astore_h0, astore_hk, hget0, hgetk, hset0, hsetk, hlen, hcat, Nat.add_assoc, Nat.add_zero, Nat.zero_add, List.length_append, and_true, true_and, AV.flat, g0, get_app g0, read_get g0, read_app g0, *, -hK, -ov, -hinv, -hdo, -la, -ke, -hend, -gs, -ho] | refine WC.call (gs _) ?_ | with_reducible refine IfB_dec (fun h => ?_) (fun h => ?_) | with_reducible refine Guard_dec (fun h => ?_) (fun h => ?_) | with_reducible refine Guard_ndec (fun h => ?_) (fun h => ?_) | with_reducible refine Guard_not (fun h => ?_) (fun h => ?_) | with_reducible refine IfB_ndec (fun h => ?_) (fun h => ?_) | with_reducible refine IfB_not (fun h => ?_) (fun h => ?_) | with_reducible refine Guard_split (fun h => ?_) (fun h => ?_) | with_reducible refine IfB_split (fun h => ?_) (fun h => ?_))
      exact hK _ _ rfl
    obtain ⟨hs1, hn1⟩ := hend ha
    rw [ha] at gs
    clear hend
    cases hg2 : getL m key with
    | some x =>
      obtain ⟨e1, e2⟩ := hs1 x hg2
      have hLR : lastR d key m.now = (x, true) := by unfold lastR; rw [e1]; simp [e2]
      rw [hg2] at gs
      rw [hLR] at la
      obtain ⟨x1, x2, x3, x4, x5⟩ := x
      simp only [optAv, Option.isSome, Item.av] at gs la
      clear hs1 hn1 hg2 hLR e1 e2 ke
      repeat' (first | simp only [go_sem, Nat.reduceLT, Nat.reduceEqDiff, Nat.reduceAdd, Nat.reduceMul, Nat.reduceSub, Nat.reduceLeDiff, Int.reduceToNat, Int.reduceNeg, Int.reduceLT, Int.reduceLE, Int.reduceEq, reduceCtorEq, Int.natCast_zero, Int.natCast_one, Int.cast_ofNat_Int, Bool.not_not, false_eq_decide, true_eq_decide, hread0, hreadk, read_cons0, read_consk, astore_h0, astore_hk, hget0, hgetk, hset0, hsetk, hlen, hcat, Nat.add_assoc, Nat.add_zero, Nat.zero_add, List.length_append, and_true, true_and, AV.flat, g0, get_app g0, read_get g0, read_app g0, hv, one_solid hv, one_cells hv, *, -hK, -ov, -hinv, -hdo, -la, -gs, -ho] | refine WC.call (gs _) ?_ | refine WC.call (la _) ?_ | with_reducible refine IfB_dec (fun h => ?_) (fun h => ?_) | with_reducible refine Guard_dec (fun h => ?_) (fun h => ?_) | with_reducible refine Guard_ndec (fun h => ?_) (fun h => ?_) | with_reducible refine Guard_not (fun h => ?_) (fun h => ?_) | with_reducible refine IfB_ndec (fun h => ?_) (fun h => ?_) | with_reducible refine IfB_not (fun h => ?_) (fun h => ?_) | with_reducible refine Guard_split (fun h => ?_) (fun h => ?_) | with_reducible refine IfB_split (fun h => ?_) (fun h => ?_))
      exact hK _ _ rfl
    | none =>
      have hn1 := hn1 hg2
      rw [hg2] at gs
      simp only [optAv, item0, Option.isSome] at gs
      cases hw : (lastR d key m.now).2 with
      | false =>
        rw [hw] at la
        generalize (lastR d key m.now).1 = y at *
        obtain ⟨x1, x2, x3, x4, x5⟩ := y
        simp only [Item.av] at la
        clear hs1 hn1 hg2 ke
        repeat' (first | simp only [go_sem, Nat.reduceLT, Nat.reduceEqDiff, Nat.reduceAdd, Nat.reduceMul, Nat.reduceSub, Nat.reduceLeDiff, Int.reduceToNat, Int.reduceNeg, Int.reduceLT, Int.reduceLE, Int.reduceEq, reduceCtorEq, Int.natCast_zero, Int.natCast_one, Int.cast_ofNat_Int, Bool.not_not, false_eq_decide, true_eq_decide, hread0, hreadk, read_cons0, read_consk, astore_h0, astore_hk, hget0, hgetk, hset0, hsetk, hlen, hcat, Nat.add_assoc, Nat.add_zero, Nat.zero_add, List.length_append, and_true, true_and, AV.flat, g0, get_app g0, read_get g0, read_app g0, hv, one_solid hv, one_cells hv, *, -hK, -ov, -hinv, -hdo, -la, -gs, -ho, -hw] | refine WC.call (gs _) ?_ | refine WC.call (la _) ?_ | with_reducible refine IfB_dec (fun h => ?_) (fun h => ?_) | with_reducible refine Guard_dec (fun h => ?_) (fun h => ?_) | with_reducible refine Guard_ndec (fun h => ?_) (fun h => ?_) | with_reducible refine Guard_not (fun h => ?_) (fun h => ?_) | with_reducible refine IfB_ndec (fun h => ?_) (fun h => ?_) | with_reducible refine IfB_not (fun h => ?_) (fun h => ?_) | with_reducible refine Guard_split (fun h => ?_) (fun h => ?_) | with_reducible refine IfB_split (fun h => ?_) (fun h => ?_))
        exact hK _ _ rfl
      | true =>
        have hk32 : (keysL d : Int) > 32 := by
          unfold lastR at hw
          simp only [Bool.and_eq_true, Bool.not_eq_true'] at hw
          have := fun h => hn1 h hw.1
          by_cases h : keysL d ≤ 32
          · have := this h; rw [hw.2] at this; cases this
          · omega
        rw [hw] at la
        generalize (lastR d key m.now).1 = y at *
        obtain ⟨x1, x2, x3, x4, x5⟩ := y
        simp only [Item.av] at la
        clear hs1 hn1 hg2
        repeat' (first | simp only [go_sem, Nat.reduceLT, Nat.reduceEqDiff, Nat.reduceAdd, Nat.reduceMul, Nat.reduceSub, Nat.reduceLeDiff, Int.reduceToNat, Int.reduceNeg, Int.reduceLT, Int.reduceLE, Int.reduceEq, reduceCtorEq, Int.natCast_zero, Int.natCast_one, Int.cast_ofNat_Int, Bool.not_not, false_eq_decide, true_eq_decide, hread0, hreadk, read_cons0, read_consk, astore_h0, astore_hk, hget0, hgetk, hset0, hsetk, hlen, hcat, Nat.add_assoc, Nat.add_zero, Nat.zero_add, List.length_append, and_true, true_and, AV.flat, g0, get_app g0, read_get g0, read_app g0, hv, one_solid hv, one_cells hv, *, -hK, -ov, -hinv, -hdo, -la, -gs, -ho, -hw, -ke] | refine WC.call (gs _) ?_ | refine WC.call (la _) ?_ | refine WC.call (ke _) ?_ | with_reducible refine IfB_dec (fun h => ?_) (fun h => ?_) | with_reducible refine Guard_dec (fun h => ?_) (fun h => ?_) | with_reducible refine Guard_ndec (fun h => ?_) (fun h => ?_) | with_reducible refine Guard_not (fun h => ?_) (fun h => ?_) | with_reducible refine IfB_ndec (fun h => ?_) (fun h => ?_) | with_reducible refine IfB_not (fun h => ?_) (fun h => ?_) | with_reducible refine Guard_split (fun h => ?_) (fun h => ?_) | with_reducible refine IfB_split (fun h => ?_) (fun h => ?_))
        exact hK _ _ rfl
  have i3 : (i : Int) < l.length := by omega
  have e1 := at_enc (E := actE) (T := T) (k := .i64) se55 hlt rfl
  have e3 := inc_id hlt hn
  have hok := ho _ (List.getElem_mem hlt)
  have hw := k_wrap hok
  have hstep := fun (q : (actL m l[i]).2 = 0) => hinv_step hinv (a := l[i]) hok.1 q
  have backN : ∀ fr2 J, A fr2 → fr2.get 11 = .int .i64 ((i + 1 : Nat) : Int) → fr2.get 10 = v → J[H.length]? = some ⟨[itemE.lst m.items, .int .i64 m.now, .bool m.closed], 0, .full⟩ → Keep none H1 J → R fr2 J := fun fr2 J ha q1 q2 q3 q4 => hR fr2 J ha (l.length - (i + 1)) (by omega) ⟨i + 1, v, d, m, rfl, by omega, q1, q2, q3, ov.keep0 q4, hinv, by omega, hdo⟩
  have backA : ∀ fr2 J v4 (m4 : Mir), A fr2 → fr2.get 11 = .int .i64 ((i + 1 : Nat) : Int) → fr2.get 10 = v4 → J[H.length]? = some ⟨[itemE.lst m4.items, .int .i64 m4.now, .bool m4.closed], 0, .full⟩ → OwnE actE (H.length + 1) J v4 (d ++ [l[i]]) → HInv m4 (d ++ [l[i]]) → H1.length ≤ J.length → R fr2 J := fun fr2 J v4 m4 ha q1 q2 q3 q4 q5 _ => hR fr2 J ha (l.length - (i + 1)) (by omega) ⟨i + 1, v4, d ++ [l[i]], m4, rfl, by omega, q1, q2, q3, q4, q5, by simp; omega, fun a h => by
    rcases List.mem_append.1 h with h | h
    · exact hdo _ h
    · simp at h; rw [h]; exact hok⟩
  clear hR
  generalize l[i] = a at *
  obtain ⟨ak, ay, av, aa⟩ := a
  rw [actE_cells] at e1
  simp only at e1 hw
  have of := fun k v t J => of_spec k v t J
  by_cases j1 : (ay.length : Int) > 1000
  · skip
    repeat' (first | simp only [go_sem, Nat.reduceLT, Nat.reduceEqDiff, Nat.reduceAdd, Nat.reduceMul, Nat.reduceSub, Nat.reduceLeDiff, Int.reduceToNat, Int.reduceNeg, Int.reduceLT, Int.reduceLE, Int.reduceEq, reduceCtorEq, Int.natCast_zero, Int.natCast_one, Int.cast_ofNat_Int, Bool.not_not, false_eq_decide, true_eq_decide, hread0, hreadk, read_cons0, read_consk, astore_h0, astore_hk, hget0, hgetk, hset0, hsetk, hlen, hcat, Nat.add_assoc, Nat.add_zero, Nat.zero_add, List.length_append, and_true, true_and, AV.flat, g0, get_app g0, read_get g0, read_app g0, *, -hK, -ov, -hinv, -hdo, -backA, -backN, -hstep, -ho, -of] | with_reducible refine IfB_dec (fun h => ?_) (fun h => ?_) | with_reducible refine Guard_dec (fun h => ?_) (fun h => ?_) | with_reducible refine Guard_ndec (fun h => ?_) (fun h => ?_) | with_reducible refine Guard_not (fun h => ?_) (fun h => ?_) | with_reducible refine IfB_ndec (fun h => ?_) (fun h => ?_) | with_reducible refine IfB_not (fun h => ?_) (fun h => ?_) | with_reducible refine Guard_split (fun h => ?_) (fun h => ?_) | with_reducible refine IfB_split (fun h => ?_) (fun h => ?_))
    exact hK _ _ rfl
  by_cases j2 : (av.length : Int) > 1000
  · skip
    repeat' (first | simp only [go_sem, Nat.reduceLT, Nat.reduceEqDiff, Nat.reduceAdd, Nat.reduceMul, Nat.reduceSub, Nat.reduceLeDiff, Int.reduceToNat, Int.reduceNeg, Int.reduceLT, Int.reduceLE, Int.reduceEq, reduceCtorEq, Int.natCast_zero, Int.natCast_one, Int.cast_ofNat_Int, Bool.not_not, false_eq_decide, true_eq_decide, hread0, hreadk, read_cons0, read_consk, astore_h0, astore_hk, hget0, hgetk, hset0, hsetk, hlen, hcat, Nat.add_assoc, Nat.add_zero, Nat.zero_add, List.length_append, and_true, true_and, AV.flat, g0, get_app g0, read_get g0, read_app g0, *, -hK, -ov, -hinv, -hdo, -backA, -backN, -hstep, -ho, -of] | with_reducible refine IfB_dec (fun h => ?_) (fun h => ?_) | with_reducible refine Guard_dec (fun h => ?_) (fun h => ?_) | with_reducible refine Guard_ndec (fun h => ?_) (fun h => ?_) | with_reducible refine Guard_not (fun h => ?_) (fun h => ?_) | with_reducible refine IfB_ndec (fun h => ?_) (fun h => ?_) | with_reducible refine IfB_not (fun h => ?_) (fun h => ?_) | with_reducible refine Guard_split (fun h => ?_) (fun h => ?_) | with_reducible refine IfB_split (fun h => ?_) (fun h => ?_))
    exact hK _ _ rfl
  have hk6 : 0 ≤ ak.tmod 6 ∧ ak.tmod 6 < 6 := ⟨Int.tmod_nonneg 6 hok.1, Int.tmod_lt_of_pos ak (by omega)⟩
  by_cases c2 : ak.tmod 6 = 2
  · skip
    have hap : actL m ⟨ak, ay, av, aa⟩ = replyL m ay false item00 := by unfold actL Act.k; simp only; rw [if_pos c2]
    rw [hap] at hstep
    have sp := fun J => reply_spec m ay false item00 (by omega) J
    generalize (replyL m ay false item00) = nf at *
    obtain ⟨⟨nit, nnw, ncl⟩, nf⟩ := nf
    simp only [Mir.av, Item.av, item00, ofI] at sp
    simp only at hstep
    by_cases hf : nf = 0
    rotate_left
    · repeat' (first | simp only [go_sem, Nat.reduceLT, Nat.reduceEqDiff, Nat.reduceAdd, Nat.reduceMul, Nat.reduceSub, Nat.reduceLeDiff, Int.reduceToNat, Int.reduceNeg, Int.reduceLT, Int.reduceLE, Int.reduceEq, reduceCtorEq, Int.natCast_zero, Int.natCast_one, Int.cast_ofNat_Int, Bool.not_not, false_eq_decide, true_eq_decide, hread0, hreadk, read_cons0, read_consk, astore_h0, astore_hk, hget0, hgetk, hset0, hsetk, hlen, hcat, Nat.add_assoc, Nat.add_zero, Nat.zero_add, List.length_append, and_true, true_and, AV.flat, g0, get_app g0, read_get g0, read_app g0, hv, one_solid hv, one_cells hv, *, -hK, -ov, -hinv, -hdo, -backA, -backN, -hstep, -ho, -hap] | refine WC.call (of _ _ _ _) ?_ | refine WC.call (sp _) ?_ | with_reducible refine IfB_dec (fun h => ?_) (fun h => ?_) | with_reducible refine Guard_dec (fun h => ?_) (fun h => ?_) | with_reducible refine Guard_ndec (fun h => ?_) (fun h => ?_) | with_reducible refine Guard_not (fun h => ?_) (fun h => ?_) | with_reducible refine IfB_ndec (fun h => ?_) (fun h => ?_) | with_reducible refine IfB_not (fun h => ?_) (fun h => ?_) | with_reducible refine Guard_split (fun h => ?_) (fun h => ?_) | with_reducible refine IfB_split (fun h => ?_) (fun h => ?_))
      exact backN _ _ (by (repeat (first | exact hs | refine hA _ _ _ (by decide) ?_))) (by simp only [go_sem, Nat.reduceLT, Nat.reduceEqDiff, Nat.reduceAdd, Nat.reduceMul, Nat.reduceSub, Nat.reduceLeDiff, Int.reduceToNat, Int.reduceNeg, Int.reduceLT, Int.reduceLE, Int.reduceEq, reduceCtorEq]) (by simp only [go_sem, Nat.reduceLT, Nat.reduceEqDiff, Nat.reduceAdd, Nat.reduceMul, Nat.reduceSub, Nat.reduceLeDiff, Int.reduceToNat, Int.reduceNeg, Int.reduceLT, Int.reduceLE, Int.reduceEq, reduceCtorEq, fv]) (get_app g0 _) (Keep.app _ _ _)
    subst hf
    have hstep := hstep rfl
    repeat' (first | simp only [go_sem, Nat.reduceLT, Nat.reduceEqDiff, Nat.reduceAdd, Nat.reduceMul, Nat.reduceSub, Nat.reduceLeDiff, Int.reduceToNat, Int.reduceNeg, Int.reduceLT, Int.reduceLE, Int.reduceEq, reduceCtorEq, Int.natCast_zero, Int.natCast_one, Int.cast_ofNat_Int, Bool.not_not, false_eq_decide, true_eq_decide, hread0, hreadk, read_cons0, read_consk, astore_h0, astore_hk, hget0, hgetk, hset0, hsetk, hlen, hcat, Nat.add_assoc, Nat.add_zero, Nat.zero_add, List.length_append, and_true, true_and, AV.flat, g0, get_app g0, read_get g0, read_app g0, astore_get g0, astore_app g0, get_set g0, get_set_app g0, read_set g0, read_set_app g0, astore_set g0, astore_set_app g0, List.set_set, hget0s, hgetks, hread0s, hreadks, List.length_set, hv, one_solid hv, one_cells hv, *, -hK, -ov, -hinv, -hdo, -backA, -backN, -hstep, -ho, -hap] | refine WC.call (of _ _ _ _) ?_ | refine WC.call (sp _) ?_ | with_reducible refine IfB_dec (fun h => ?_) (fun h => ?_) | with_reducible refine Guard_dec (fun h => ?_) (fun h => ?_) | with_reducible refine Guard_ndec (fun h => ?_) (fun h => ?_) | with_reducible refine Guard_not (fun h => ?_) (fun h => ?_) | with_reducible refine IfB_ndec (fun h => ?_) (fun h => ?_) | with_reducible refine IfB_not (fun h => ?_) (fun h => ?_) | with_reducible refine Guard_split (fun h => ?_) (fun h => ?_) | with_reducible refine IfB_split (fun h => ?_) (fun h => ?_))
    refine append_enc (E := actE) (m := H.length + 1) (ys := [⟨ak, ay, av, aa⟩]) (OwnE.keep0 (OwnE.keep ov (Keep.of_set rfl) (fun b hb e => by cases hb; have := ov.ge e; omega)) (Keep.app none _ _)) se55 az57 td57 (by rw [Enc.row_one]; exact asrc_sl tk55 (Vs.sl (vs_at (st := .full) (by rw [List.getElem?_append_right (by simp)]; simp; exact ⟨rfl, rfl⟩) rfl rfl))) (by decide) (by show (d.length + 1) * _ ≤ _; simp only [actE]; omega) (by simp; omega) ?_
    intro v4 H4 o4 k4 hn4
    have hv4 := o4.one
    repeat' (first | simp only [go_sem, Nat.reduceLT, Nat.reduceEqDiff, Nat.reduceAdd, Nat.reduceMul, Nat.reduceSub, Nat.reduceLeDiff, Int.reduceToNat, Int.reduceNeg, Int.reduceLT, Int.reduceLE, Int.reduceEq, reduceCtorEq, Int.natCast_zero, Int.natCast_one, Int.cast_ofNat_Int, Bool.not_not, false_eq_decide, true_eq_decide, hread0, hreadk, read_cons0, read_consk, astore_h0, astore_hk, hget0, hgetk, hset0, hsetk, hlen, hcat, Nat.add_assoc, Nat.add_zero, Nat.zero_add, List.length_append, and_true, true_and, AV.flat, hv4, one_solid hv4, one_cells hv4, *, -hK, -ov, -hinv, -hdo, -backA, -backN, -hstep, -ho, -hap, -o4, -k4, -hn4, -g0] | with_reducible refine IfB_dec (fun h => ?_) (fun h => ?_) | with_reducible refine Guard_dec (fun h => ?_) (fun h => ?_) | with_reducible refine Guard_ndec (fun h => ?_) (fun h => ?_) | with_reducible refine Guard_not (fun h => ?_) (fun h => ?_) | with_reducible refine IfB_ndec (fun h => ?_) (fun h => ?_) | with_reducible refine IfB_not (fun h => ?_) (fun h => ?_) | with_reducible refine Guard_split (fun h => ?_) (fun h => ?_) | with_reducible refine IfB_split (fun h => ?_) (fun h => ?_))
    exact backA _ _ _ _ (by (repeat (first | exact hs | refine hA _ _ _ (by decide) ?_))) (by simp only [go_sem, Nat.reduceLT, Nat.reduceEqDiff, Nat.reduceAdd, Nat.reduceMul, Nat.reduceSub, Nat.reduceLeDiff, Int.reduceToNat, Int.reduceNeg, Int.reduceLT, Int.reduceLE, Int.reduceEq, reduceCtorEq]) (by simp only [go_sem, Nat.reduceLT, Nat.reduceEqDiff, Nat.reduceAdd, Nat.reduceMul, Nat.reduceSub, Nat.reduceLeDiff, Int.reduceToNat, Int.reduceNeg, Int.reduceLT, Int.reduceLE, Int.reduceEq, reduceCtorEq]) (k4.get (get_app (List.getElem?_set_self hl0) _) (fun e => by have := ov.ge e; omega)) o4 hstep (by have := k4.len; simp at this; omega)
  by_cases c3 : ak.tmod 6 = 3
  · skip
    have hap : actL m ⟨ak, ay, av, aa⟩ = pushP m ay := by unfold actL Act.k; simp only; rw [if_neg c2, if_pos c3]; rfl
    rw [hap] at hstep
    have sp := fun J => pushP_spec m ay (by omega) J
    generalize (pushP m ay) = nf at *
    obtain ⟨⟨nit, nnw, ncl⟩, nf⟩ := nf
    simp only [Mir.av, Item.av, item00, ofI] at sp
    simp only at hstep
    by_cases hf : nf = 0
    rotate_left
    · repeat' (first | simp only [go_sem, Nat.reduceLT, Nat.reduceEqDiff, Nat.reduceAdd, Nat.reduceMul, Nat.reduceSub, Nat.reduceLeDiff, Int.reduceToNat, Int.reduceNeg, Int.reduceLT, Int.reduceLE, Int.reduceEq, reduceCtorEq, Int.natCast_zero, Int.natCast_one, Int.cast_ofNat_Int, Bool.not_not, false_eq_decide, true_eq_decide, hread0, hreadk, read_cons0, read_consk, astore_h0, astore_hk, hget0, hgetk, hset0, hsetk, hlen, hcat, Nat.add_assoc, Nat.add_zero, Nat.zero_add, List.length_append, and_true, true_and, AV.flat, g0, get_app g0, read_get g0, read_app g0, hv, one_solid hv, one_cells hv, *, -hK, -ov, -hinv, -hdo, -backA, -backN, -hstep, -ho, -hap] | refine WC.call (of _ _ _ _) ?_ | refine WC.call (sp _) ?_ | with_reducible refine IfB_dec (fun h => ?_) (fun h => ?_) | with_reducible refine Guard_dec (fun h => ?_) (fun h => ?_) | with_reducible refine Guard_ndec (fun h => ?_) (fun h => ?_) | with_reducible refine Guard_not (fun h => ?_) (fun h => ?_) | with_reducible refine IfB_ndec (fun h => ?_) (fun h => ?_) | with_reducible refine IfB_not (fun h => ?_) (fun h => ?_) | with_reducible refine Guard_split (fun h => ?_) (fun h => ?_) | with_reducible refine IfB_split (fun h => ?_) (fun h => ?_))
      exact backN _ _ (by (repeat (first | exact hs | refine hA _ _ _ (by decide) ?_))) (by simp only [go_sem, Nat.reduceLT, Nat.reduceEqDiff, Nat.reduceAdd, Nat.reduceMul, Nat.reduceSub, Nat.reduceLeDiff, Int.reduceToNat, Int.reduceNeg, Int.reduceLT, Int.reduceLE, Int.reduceEq, reduceCtorEq]) (by simp only [go_sem, Nat.reduceLT, Nat.reduceEqDiff, Nat.reduceAdd, Nat.reduceMul, Nat.reduceSub, Nat.reduceLeDiff, Int.reduceToNat, Int.reduceNeg, Int.reduceLT, Int.reduceLE, Int.reduceEq, reduceCtorEq, fv]) (get_app g0 _) (Keep.app _ _ _)
    subst hf
    have hstep := hstep rfl
    repeat' (first | simp only [go_sem, Nat.reduceLT, Nat.reduceEqDiff, Nat.reduceAdd, Nat.reduceMul, Nat.reduceSub, Nat.reduceLeDiff, Int.reduceToNat, Int.reduceNeg, Int.reduceLT, Int.reduceLE, Int.reduceEq, reduceCtorEq, Int.natCast_zero, Int.natCast_one, Int.cast_ofNat_Int, Bool.not_not, false_eq_decide, true_eq_decide, hread0, hreadk, read_cons0, read_consk, astore_h0, astore_hk, hget0, hgetk, hset0, hsetk, hlen, hcat, Nat.add_assoc, Nat.add_zero, Nat.zero_add, List.length_append, and_true, true_and, AV.flat, g0, get_app g0, read_get g0, read_app g0, astore_get g0, astore_app g0, get_set g0, get_set_app g0, read_set g0, read_set_app g0, astore_set g0, astore_set_app g0, List.set_set, hget0s, hgetks, hread0s, hreadks, List.length_set, hv, one_solid hv, one_cells hv, *, -hK, -ov, -hinv, -hdo, -backA, -backN, -hstep, -ho, -hap] | refine WC.call (of _ _ _ _) ?_ | refine WC.call (sp _) ?_ | with_reducible refine IfB_dec (fun h => ?_) (fun h => ?_) | with_reducible refine Guard_dec (fun h => ?_) (fun h => ?_) | with_reducible refine Guard_ndec (fun h => ?_) (fun h => ?_) | with_reducible refine Guard_not (fun h => ?_) (fun h => ?_) | with_reducible refine IfB_ndec (fun h => ?_) (fun h => ?_) | with_reducible refine IfB_not (fun h => ?_) (fun h => ?_) | with_reducible refine Guard_split (fun h => ?_) (fun h => ?_) | with_reducible refine IfB_split (fun h => ?_) (fun h => ?_))
    refine append_enc (E := actE) (m := H.length + 1) (ys := [⟨ak, ay, av, aa⟩]) (OwnE.keep0 (OwnE.keep ov (Keep.of_set rfl) (fun b hb e => by cases hb; have := ov.ge e; omega)) (Keep.app none _ _)) se55 az57 td57 (by rw [Enc.row_one]; exact asrc_sl tk55 (Vs.sl (vs_at (st := .full) (by rw [List.getElem?_append_right (by simp)]; simp; exact ⟨rfl, rfl⟩) rfl rfl))) (by decide) (by show (d.length + 1) * _ ≤ _; simp only [actE]; omega) (by simp; omega) ?_
    intro v4 H4 o4 k4 hn4
    have hv4 := o4.one
    repeat' (first | simp only [go_sem, Nat.reduceLT, Nat.reduceEqDiff, Nat.reduceAdd, Nat.reduceMul, Nat.reduceSub, Nat.reduceLeDiff, Int.reduceToNat, Int.reduceNeg, Int.reduceLT, Int.reduceLE, Int.reduceEq, reduceCtorEq, Int.natCast_zero, Int.natCast_one, Int.cast_ofNat_Int, Bool.not_not, false_eq_decide, true_eq_decide, hread0, hreadk, read_cons0, read_consk, astore_h0, astore_hk, hget0, hgetk, hset0, hsetk, hlen, hcat, Nat.add_assoc, Nat.add_zero, Nat.zero_add, List.length_append, and_true, true_and, AV.flat, hv4, one_solid hv4, one_cells hv4, *, -hK, -ov, -hinv, -hdo, -backA, -backN, -hstep, -ho, -hap, -o4, -k4, -hn4, -g0] | with_reducible refine IfB_dec (fun h => ?_) (fun h => ?_) | with_reducible refine Guard_dec (fun h => ?_) (fun h => ?_) | with_reducible refine Guard_ndec (fun h => ?_) (fun h => ?_) | with_reducible refine Guard_not (fun h => ?_) (fun h => ?_) | with_reducible refine IfB_ndec (fun h => ?_) (fun h => ?_) | with_reducible refine IfB_not (fun h => ?_) (fun h => ?_) | with_reducible refine Guard_split (fun h => ?_) (fun h => ?_) | with_reducible refine IfB_split (fun h => ?_) (fun h => ?_))
    exact backA _ _ _ _ (by (repeat (first | exact hs | refine hA _ _ _ (by decide) ?_))) (by simp only [go_sem, Nat.reduceLT, Nat.reduceEqDiff, Nat.reduceAdd, Nat.reduceMul, Nat.reduceSub, Nat.reduceLeDiff, Int.reduceToNat, Int.reduceNeg, Int.reduceLT, Int.reduceLE, Int.reduceEq, reduceCtorEq]) (by simp only [go_sem, Nat.reduceLT, Nat.reduceEqDiff, Nat.reduceAdd, Nat.reduceMul, Nat.reduceSub, Nat.reduceLeDiff, Int.reduceToNat, Int.reduceNeg, Int.reduceLT, Int.reduceLE, Int.reduceEq, reduceCtorEq]) (k4.get (get_app (List.getElem?_set_self hl0) _) (fun e => by have := ov.ge e; omega)) o4 hstep (by have := k4.len; simp at this; omega)
  by_cases c4 : ak.tmod 6 = 4
  · skip
    have hap : actL m ⟨ak, ay, av, aa⟩ = tickL m aa := by unfold actL Act.k; simp only; rw [if_neg c2, if_neg c3, if_pos c4]
    rw [hap] at hstep
    have sp := fun J => tick_spec m aa (by omega) J
    generalize (tickL m aa) = nf at *
    obtain ⟨⟨nit, nnw, ncl⟩, nf⟩ := nf
    simp only [Mir.av, Item.av, item00, ofI] at sp
    simp only at hstep
    by_cases hf : nf = 0
    rotate_left
    · repeat' (first | simp only [go_sem, Nat.reduceLT, Nat.reduceEqDiff, Nat.reduceAdd, Nat.reduceMul, Nat.reduceSub, Nat.reduceLeDiff, Int.reduceToNat, Int.reduceNeg, Int.reduceLT, Int.reduceLE, Int.reduceEq, reduceCtorEq, Int.natCast_zero, Int.natCast_one, Int.cast_ofNat_Int, Bool.not_not, false_eq_decide, true_eq_decide, hread0, hreadk, read_cons0, read_consk, astore_h0, astore_hk, hget0, hgetk, hset0, hsetk, hlen, hcat, Nat.add_assoc, Nat.add_zero, Nat.zero_add, List.length_append, and_true, true_and, AV.flat, g0, get_app g0, read_get g0, read_app g0, hv, one_solid hv, one_cells hv, *, -hK, -ov, -hinv, -hdo, -backA, -backN, -hstep, -ho, -hap] | refine WC.call (of _ _ _ _) ?_ | refine WC.call (sp _) ?_ | with_reducible refine IfB_dec (fun h => ?_) (fun h => ?_) | with_reducible refine Guard_dec (fun h => ?_) (fun h => ?_) | with_reducible refine Guard_ndec (fun h => ?_) (fun h => ?_) | with_reducible refine Guard_not (fun h => ?_) (fun h => ?_) | with_reducible refine IfB_ndec (fun h => ?_) (fun h => ?_) | with_reducible refine IfB_not (fun h => ?_) (fun h => ?_) | with_reducible refine Guard_split (fun h => ?_) (fun h => ?_) | with_reducible refine IfB_split (fun h => ?_) (fun h => ?_))
      exact backN _ _ (by (repeat (first | exact hs | refine hA _ _ _ (by decide) ?_))) (by simp only [go_sem, Nat.reduceLT, Nat.reduceEqDiff, Nat.reduceAdd, Nat.reduceMul, Nat.reduceSub, Nat.reduceLeDiff, Int.reduceToNat, Int.reduceNeg, Int.reduceLT, Int.reduceLE, Int.reduceEq, reduceCtorEq]) (by simp only [go_sem, Nat.reduceLT, Nat.reduceEqDiff, Nat.reduceAdd, Nat.reduceMul, Nat.reduceSub, Nat.reduceLeDiff, Int.reduceToNat, Int.reduceNeg, Int.reduceLT, Int.reduceLE, Int.reduceEq, reduceCtorEq, fv]) (get_app g0 _) (Keep.app _ _ _)
    subst hf
    have hstep := hstep rfl
    repeat' (first | simp only [go_sem, Nat.reduceLT, Nat.reduceEqDiff, Nat.reduceAdd, Nat.reduceMul, Nat.reduceSub, Nat.reduceLeDiff, Int.reduceToNat, Int.reduceNeg, Int.reduceLT, Int.reduceLE, Int.reduceEq, reduceCtorEq, Int.natCast_zero, Int.natCast_one, Int.cast_ofNat_Int, Bool.not_not, false_eq_decide, true_eq_decide, hread0, hreadk, read_cons0, read_consk, astore_h0, astore_hk, hget0, hgetk, hset0, hsetk, hlen, hcat, Nat.add_assoc, Nat.add_zero, Nat.zero_add, List.length_append, and_true, true_and, AV.flat, g0, get_app g0, read_get g0, read_app g0, astore_get g0, astore_app g0, get_set g0, get_set_app g0, read_set g0, read_set_app g0, astore_set g0, astore_set_app g0, List.set_set, hget0s, hgetks, hread0s, hreadks, List.length_set, hv, one_solid hv, one_cells hv, *, -hK, -ov, -hinv, -hdo, -backA, -backN, -hstep, -ho, -hap] | refine WC.call (of _ _ _ _) ?_ | refine WC.call (sp _) ?_ | with_reducible refine IfB_dec (fun h => ?_) (fun h => ?_) | with_reducible refine Guard_dec (fun h => ?_) (fun h => ?_) | with_reducible refine Guard_ndec (fun h => ?_) (fun h => ?_) | with_reducible refine Guard_not (fun h => ?_) (fun h => ?_) | with_reducible refine IfB_ndec (fun h => ?_) (fun h => ?_) | with_reducible refine IfB_not (fun h => ?_) (fun h => ?_) | with_reducible refine Guard_split (fun h => ?_) (fun h => ?_) | with_reducible refine IfB_split (fun h => ?_) (fun h => ?_))
    refine append_enc (E := actE) (m := H.length + 1) (ys := [⟨ak, ay, av, aa⟩]) (OwnE.keep0 (OwnE.keep ov (Keep.of_set rfl) (fun b hb e => by cases hb; have := ov.ge e; omega)) (Keep.app none _ _)) se55 az57 td57 (by rw [Enc.row_one]; exact asrc_sl tk55 (Vs.sl (vs_at (st := .full) (by rw [List.getElem?_append_right (by simp)]; simp; exact ⟨rfl, rfl⟩) rfl rfl))) (by decide) (by show (d.length + 1) * _ ≤ _; simp only [actE]; omega) (by simp; omega) ?_
    intro v4 H4 o4 k4 hn4
    have hv4 := o4.one
    repeat' (first | simp only [go_sem, Nat.reduceLT, Nat.reduceEqDiff, Nat.reduceAdd, Nat.reduceMul, Nat.reduceSub, Nat.reduceLeDiff, Int.reduceToNat, Int.reduceNeg, Int.reduceLT, Int.reduceLE, Int.reduceEq, reduceCtorEq, Int.natCast_zero, Int.natCast_one, Int.cast_ofNat_Int, Bool.not_not, false_eq_decide, true_eq_decide, hread0, hreadk, read_cons0, read_consk, astore_h0, astore_hk, hget0, hgetk, hset0, hsetk, hlen, hcat, Nat.add_assoc, Nat.add_zero, Nat.zero_add, List.length_append, and_true, true_and, AV.flat, hv4, one_solid hv4, one_cells hv4, *, -hK, -ov, -hinv, -hdo, -backA, -backN, -hstep, -ho, -hap, -o4, -k4, -hn4, -g0] | with_reducible refine IfB_dec (fun h => ?_) (fun h => ?_) | with_reducible refine Guard_dec (fun h => ?_) (fun h => ?_) | with_reducible refine Guard_ndec (fun h => ?_) (fun h => ?_) | with_reducible refine Guard_not (fun h => ?_) (fun h => ?_) | with_reducible refine IfB_ndec (fun h => ?_) (fun h => ?_) | with_reducible refine IfB_not (fun h => ?_) (fun h => ?_) | with_reducible refine Guard_split (fun h => ?_) (fun h => ?_) | with_reducible refine IfB_split (fun h => ?_) (fun h => ?_))
    exact backA _ _ _ _ (by (repeat (first | exact hs | refine hA _ _ _ (by decide) ?_))) (by simp only [go_sem, Nat.reduceLT, Nat.reduceEqDiff, Nat.reduceAdd, Nat.reduceMul, Nat.reduceSub, Nat.reduceLeDiff, Int.reduceToNat, Int.reduceNeg, Int.reduceLT, Int.reduceLE, Int.reduceEq, reduceCtorEq]) (by simp only [go_sem, Nat.reduceLT, Nat.reduceEqDiff, Nat.reduceAdd, Nat.reduceMul, Nat.reduceSub, Nat.reduceLeDiff, Int.reduceToNat, Int.reduceNeg, Int.reduceLT, Int.reduceLE, Int.reduceEq, reduceCtorEq]) (k4.get (get_app (List.getElem?_set_self hl0) _) (fun e => by have := ov.ge e; omega)) o4 hstep (by have := k4.len; simp at this; omega)
  by_cases c5 : ak.tmod 6 = 5
  · skip
    have hap : actL m ⟨ak, ay, av, aa⟩ = closeL m := by unfold actL Act.k; simp only; rw [if_neg c2, if_neg c3, if_neg c4, if_pos c5]
    rw [hap] at hstep
    have sp := fun J => close_spec m (by omega) J
    generalize (closeL m) = nf at *
    obtain ⟨⟨nit, nnw, ncl⟩, nf⟩ := nf
    simp only [Mir.av, Item.av, item00, ofI] at sp
    simp only at hstep
    by_cases hf : nf = 0
    rotate_left
    · repeat' (first | simp only [go_sem, Nat.reduceLT, Nat.reduceEqDiff, Nat.reduceAdd, Nat.reduceMul, Nat.reduceSub, Nat.reduceLeDiff, Int.reduceToNat, Int.reduceNeg, Int.reduceLT, Int.reduceLE, Int.reduceEq, reduceCtorEq, Int.natCast_zero, Int.natCast_one, Int.cast_ofNat_Int, Bool.not_not, false_eq_decide, true_eq_decide, hread0, hreadk, read_cons0, read_consk, astore_h0, astore_hk, hget0, hgetk, hset0, hsetk, hlen, hcat, Nat.add_assoc, Nat.add_zero, Nat.zero_add, List.length_append, and_true, true_and, AV.flat, g0, get_app g0, read_get g0, read_app g0, hv, one_solid hv, one_cells hv, *, -hK, -ov, -hinv, -hdo, -backA, -backN, -hstep, -ho, -hap] | refine WC.call (of _ _ _ _) ?_ | refine WC.call (sp _) ?_ | with_reducible refine IfB_dec (fun h => ?_) (fun h => ?_) | with_reducible refine Guard_dec (fun h => ?_) (fun h => ?_) | with_reducible refine Guard_ndec (fun h => ?_) (fun h => ?_) | with_reducible refine Guard_not (fun h => ?_) (fun h => ?_) | with_reducible refine IfB_ndec (fun h => ?_) (fun h => ?_) | with_reducible refine IfB_not (fun h => ?_) (fun h => ?_) | with_reducible refine Guard_split (fun h => ?_) (fun h => ?_) | with_reducible refine IfB_split (fun h => ?_) (fun h => ?_))
      exact backN _ _ (by (repeat (first | exact hs | refine hA _ _ _ (by decide) ?_))) (by simp only [go_sem, Nat.reduceLT, Nat.reduceEqDiff, Nat.reduceAdd, Nat.reduceMul, Nat.reduceSub, Nat.reduceLeDiff, Int.reduceToNat, Int.reduceNeg, Int.reduceLT, Int.reduceLE, Int.reduceEq, reduceCtorEq]) (by simp only [go_sem, Nat.reduceLT, Nat.reduceEqDiff, Nat.reduceAdd, Nat.reduceMul, Nat.reduceSub, Nat.reduceLeDiff, Int.reduceToNat, Int.reduceNeg, Int.reduceLT, Int.reduceLE, Int.reduceEq, reduceCtorEq, fv]) (get_app g0 _) (Keep.app _ _ _)
    subst hf
    have hstep := hstep rfl
    repeat' (first | simp only [go_sem, Nat.reduceLT, Nat.reduceEqDiff, Nat.reduceAdd, Nat.reduceMul, Nat.reduceSub, Nat.reduceLeDiff, Int.reduceToNat, Int.reduceNeg, Int.reduceLT, Int.reduceLE, Int.reduceEq, reduceCtorEq, Int.natCast_zero, Int.natCast_one, Int.cast_ofNat_Int, Bool.not_not, false_eq_decide, true_eq_decide, hread0, hreadk, read_cons0, read_consk, astore_h0, astore_hk, hget0, hgetk, hset0, hsetk, hlen, hcat, Nat.add_assoc, Nat.add_zero, Nat.zero_add, List.length_append, and_true, true_and, AV.flat, g0, get_app g0, read_get g0, read_app g0, astore_get g0, astore_app g0, get_set g0, get_set_app g0, read_set g0, read_set_app g0, astore_set g0, astore_set_app g0, List.set_set, hget0s, hgetks, hread0s, hreadks, List.length_set, hv, one_solid hv, one_cells hv, *, -hK, -ov, -hinv, -hdo, -backA, -backN, -hstep, -ho, -hap] | refine WC.call (of _ _ _ _) ?_ | refine WC.call (sp _) ?_ | with_reducible refine IfB_dec (fun h => ?_) (fun h => ?_) | with_reducible refine Guard_dec (fun h => ?_) (fun h => ?_) | with_reducible refine Guard_ndec (fun h => ?_) (fun h => ?_) | with_reducible refine Guard_not (fun h => ?_) (fun h => ?_) | with_reducible refine IfB_ndec (fun h => ?_) (fun h => ?_) | with_reducible refine IfB_not (fun h => ?_) (fun h => ?_) | with_reducible refine Guard_split (fun h => ?_) (fun h => ?_) | with_reducible refine IfB_split (fun h => ?_) (fun h => ?_))
    refine append_enc (E := actE) (m := H.length + 1) (ys := [⟨ak, ay, av, aa⟩]) (OwnE.keep0 (OwnE.keep ov (Keep.of_set rfl) (fun b hb e => by cases hb; have := ov.ge e; omega)) (Keep.app none _ _)) se55 az57 td57 (by rw [Enc.row_one]; exact asrc_sl tk55 (Vs.sl (vs_at (st := .full) (by rw [List.getElem?_append_right (by simp)]; simp; exact ⟨rfl, rfl⟩) rfl rfl))) (by decide) (by show (d.length + 1) * _ ≤ _; simp only [actE]; omega) (by simp; omega) ?_
    intro v4 H4 o4 k4 hn4
    have hv4 := o4.one
    repeat' (first | simp only [go_sem, Nat.reduceLT, Nat.reduceEqDiff, Nat.reduceAdd, Nat.reduceMul, Nat.reduceSub, Nat.reduceLeDiff, Int.reduceToNat, Int.reduceNeg, Int.reduceLT, Int.reduceLE, Int.reduceEq, reduceCtorEq, Int.natCast_zero, Int.natCast_one, Int.cast_ofNat_Int, Bool.not_not, false_eq_decide, true_eq_decide, hread0, hreadk, read_cons0, read_consk, astore_h0, astore_hk, hget0, hgetk, hset0, hsetk, hlen, hcat, Nat.add_assoc, Nat.add_zero, Nat.zero_add, List.length_append, and_true, true_and, AV.flat, hv4, one_solid hv4, one_cells hv4, *, -hK, -ov, -hinv, -hdo, -backA, -backN, -hstep, -ho, -hap, -o4, -k4, -hn4, -g0] | with_reducible refine IfB_dec (fun h => ?_) (fun h => ?_) | with_reducible refine Guard_dec (fun h => ?_) (fun h => ?_) | with_reducible refine Guard_ndec (fun h => ?_) (fun h => ?_) | with_reducible refine Guard_not (fun h => ?_) (fun h => ?_) | with_reducible refine IfB_ndec (fun h => ?_) (fun h => ?_) | with_reducible refine IfB_not (fun h => ?_) (fun h => ?_) | with_reducible refine Guard_split (fun h => ?_) (fun h => ?_) | with_reducible refine IfB_split (fun h => ?_) (fun h => ?_))
    exact backA _ _ _ _ (by (repeat (first | exact hs | refine hA _ _ _ (by decide) ?_))) (by simp only [go_sem, Nat.reduceLT, Nat.reduceEqDiff, Nat.reduceAdd, Nat.reduceMul, Nat.reduceSub, Nat.reduceLeDiff, Int.reduceToNat, Int.reduceNeg, Int.reduceLT, Int.reduceLE, Int.reduceEq, reduceCtorEq]) (by simp only [go_sem, Nat.reduceLT, Nat.reduceEqDiff, Nat.reduceAdd, Nat.reduceMul, Nat.reduceSub, Nat.reduceLeDiff, Int.reduceToNat, Int.reduceNeg, Int.reduceLT, Int.reduceLE, Int.reduceEq, reduceCtorEq]) (k4.get (get_app (List.getElem?_set_self hl0) _) (fun e => by have := ov.ge e; omega)) o4 hstep (by have := k4.len; simp at this; omega)
  simp only [Item.av, ofI] at of
  have hap : actL m ⟨ak, ay, av, aa⟩ = replyL m ay true (ofI ay av aa) := by unfold actL Act.k; simp only; rw [if_neg c2, if_neg c3, if_neg c4, if_neg c5]
  rw [hap] at hstep
  have sp := fun J => reply_spec m ay true (ofI ay av aa) (by omega) J
  generalize (replyL m ay true (ofI ay av aa)) = nf at *
  obtain ⟨⟨nit, nnw, ncl⟩, nf⟩ := nf
  simp only [Mir.av, Item.av, item00, ofI] at sp
  simp only at hstep
  by_cases hf : nf = 0
  rotate_left
  · skip
    repeat' (first | simp only [go_sem, Nat.reduceLT, Nat.reduceEqDiff, Nat.reduceAdd, Nat.reduceMul, Nat.reduceSub, Nat.reduceLeDiff, Int.reduceToNat, Int.reduceNeg, Int.reduceLT, Int.reduceLE, Int.reduceEq, reduceCtorEq, Int.natCast_zero, Int.natCast_one, Int.cast_ofNat_Int, Bool.not_not, false_eq_decide, true_eq_decide, hread0, hreadk, read_cons0, read_consk, astore_h0, astore_hk, hget0, hgetk, hset0, hsetk, hlen, hcat, Nat.add_assoc, Nat.add_zero, Nat.zero_add, List.length_append, and_true, true_and, AV.flat, g0, get_app g0, read_get g0, read_app g0, hv, one_solid hv, one_cells hv, *, -hK, -ov, -hinv, -hdo, -backA, -backN, -hstep, -ho, -hap] | refine WC.call (of _ _ _ _) ?_ | refine WC.call (sp _) ?_ | with_reducible refine IfB_dec (fun h => ?_) (fun h => ?_) | with_reducible refine Guard_dec (fun h => ?_) (fun h => ?_) | with_reducible refine Guard_ndec (fun h => ?_) (fun h => ?_) | with_reducible refine Guard_not (fun h => ?_) (fun h => ?_) | with_reducible refine IfB_ndec (fun h => ?_) (fun h => ?_) | with_reducible refine IfB_not (fun h => ?_) (fun h => ?_) | with_reducible refine Guard_split (fun h => ?_) (fun h => ?_) | with_reducible refine IfB_split (fun h => ?_) (fun h => ?_))
    refine WX_rows hT hmix [(0, none), (1, none), (2, none), (3, none), (4, none), (5, none), (6, none), (7, none), (8, none), (9, some [true, true, true, true, true, true, false, false, false]), (10, some [true, true, true, true, true, true, true, true, true, true]), (11, none), (12, none), (13, none), (14, some [false, true, true, true, true, true, true, true, true, true, true, true, true, true]), (15, none)] (by kernel_rfl) ?_
    repeat' (first | simp only [go_sem, Nat.reduceLT, Nat.reduceEqDiff, Nat.reduceAdd, Nat.reduceMul, Nat.reduceSub, Nat.reduceLeDiff, Int.reduceToNat, Int.reduceNeg, Int.reduceLT, Int.reduceLE, Int.reduceEq, reduceCtorEq, Int.natCast_zero, Int.natCast_one, Int.cast_ofNat_Int, Bool.not_not, false_eq_decide, true_eq_decide, hread0, hreadk, read_cons0, read_consk, astore_h0, astore_hk, hget0, hgetk, hset0, hsetk, hlen, hcat, Nat.add_assoc, Nat.add_zero, Nat.zero_add, List.length_append, and_true, true_and, AV.flat, g0, get_app g0, read_get g0, read_app g0, hv, one_solid hv, one_cells hv, *, -hK, -ov, -hinv, -hdo, -backA, -backN, -hstep, -ho, -hap] | refine WC.call (of _ _ _ _) ?_ | refine WC.call (sp _) ?_ | with_reducible refine IfB_dec (fun h => ?_) (fun h => ?_) | with_reducible refine Guard_dec (fun h => ?_) (fun h => ?_) | with_reducible refine Guard_ndec (fun h => ?_) (fun h => ?_) | with_reducible refine Guard_not (fun h => ?_) (fun h => ?_) | with_reducible refine IfB_ndec (fun h => ?_) (fun h => ?_) | with_reducible refine IfB_not (fun h => ?_) (fun h => ?_) | with_reducible refine Guard_split (fun h => ?_) (fun h => ?_) | with_reducible refine IfB_split (fun h => ?_) (fun h => ?_))
  
    exact backN _ _ (by (repeat (first | exact hs | refine hA _ _ _ (by decide) ?_))) (by simp only [go_sem, Nat.reduceLT, Nat.reduceEqDiff, Nat.reduceAdd, Nat.reduceMul, Nat.reduceSub, Nat.reduceLeDiff, Int.reduceToNat, Int.reduceNeg, Int.reduceLT, Int.reduceLE, Int.reduceEq, reduceCtorEq]) (by simp only [go_sem, Nat.reduceLT, Nat.reduceEqDiff, Nat.reduceAdd, Nat.reduceMul, Nat.reduceSub, Nat.reduceLeDiff, Int.reduceToNat, Int.reduceNeg, Int.reduceLT, Int.reduceLE, Int.reduceEq, reduceCtorEq, fv]) (get_app g0 _) (Keep.app _ _ _)
  subst hf
  have hstep := hstep rfl
  repeat' (first | simp only [go_sem, Nat.reduceLT, Nat.reduceEqDiff, Nat.reduceAdd, Nat.reduceMul, Nat.reduceSub, Nat.reduceLeDiff, Int.reduceToNat, Int.reduceNeg, Int.reduceLT, Int.reduceLE, Int.reduceEq, reduceCtorEq, Int.natCast_zero, Int.natCast_one, Int.cast_ofNat_Int, Bool.not_not, false_eq_decide, true_eq_decide, hread0, hreadk, read_cons0, read_consk, astore_h0, astore_hk, hget0, hgetk, hset0, hsetk, hlen, hcat, Nat.add_assoc, Nat.add_zero, Nat.zero_add, List.length_append, and_true, true_and, AV.flat, g0, get_app g0, read_get g0, read_app g0, astore_get g0, astore_app g0, get_set g0, get_set_app g0, read_set g0, read_set_app g0, astore_set g0, astore_set_app g0, List.set_set, hget0s, hgetks, hread0s, hreadks, List.length_set, hv, one_solid hv, one_cells hv, *, -hK, -ov, -hinv, -hdo, -backA, -backN, -hstep, -ho, -hap] | refine WC.call (of _ _ _ _) ?_ | refine WC.call (sp _) ?_ | with_reducible refine IfB_dec (fun h => ?_) (fun h => ?_) | with_reducible refine Guard_dec (fun h => ?_) (fun h => ?_) | with_reducible refine Guard_ndec (fun h => ?_) (fun h => ?_) | with_reducible refine Guard_not (fun h => ?_) (fun h => ?_) | with_reducible refine IfB_ndec (fun h => ?_) (fun h => ?_) | with_reducible refine IfB_not (fun h => ?_) (fun h => ?_) | with_reducible refine Guard_split (fun h => ?_) (fun h => ?_) | with_reducible refine IfB_split (fun h => ?_) (fun h => ?_))
  refine WX_rows hT hmix [(0, none), (1, none), (2, none), (3, none), (4, none), (5, none), (6, none), (7, none), (8, none), (9, some [true, true, true, true, true, true, false, false, false]), (10, some [true, true, true, true, true, true, true, true, true, true]), (11, none), (12, none), (13, none), (14, some [false, true, true, true, true, true, true, true, true, true, true, true, true, true]), (15, none)] (by kernel_rfl) ?_
  repeat' (first | simp only [go_sem, Nat.reduceLT, Nat.reduceEqDiff, Nat.reduceAdd, Nat.reduceMul, Nat.reduceSub, Nat.reduceLeDiff, Int.reduceToNat, Int.reduceNeg, Int.reduceLT, Int.reduceLE, Int.reduceEq, reduceCtorEq, Int.natCast_zero, Int.natCast_one, Int.cast_ofNat_Int, Bool.not_not, false_eq_decide, true_eq_decide, hread0, hreadk, read_cons0, read_consk, astore_h0, astore_hk, hget0, hgetk, hset0, hsetk, hlen, hcat, Nat.add_assoc, Nat.add_zero, Nat.zero_add, List.length_append, and_true, true_and, AV.flat, g0, get_app g0, read_get g0, read_app g0, astore_get g0, astore_app g0, get_set g0, get_set_app g0, read_set g0, read_set_app g0, astore_set g0, astore_set_app g0, List.set_set, hget0s, hgetks, hread0s, hreadks, List.length_set, hv, one_solid hv, one_cells hv, *, -hK, -ov, -hinv, -hdo, -backA, -backN, -hstep, -ho, -hap] | refine WC.call (of _ _ _ _) ?_ | refine WC.call (sp _) ?_ | with_reducible refine IfB_dec (fun h => ?_) (fun h => ?_) | with_reducible refine Guard_dec (fun h => ?_) (fun h => ?_) | with_reducible refine Guard_ndec (fun h => ?_) (fun h => ?_) | with_reducible refine Guard_not (fun h => ?_) (fun h => ?_) | with_reducible refine IfB_ndec (fun h => ?_) (fun h => ?_) | with_reducible refine IfB_not (fun h => ?_) (fun h => ?_) | with_reducible refine Guard_split (fun h => ?_) (fun h => ?_) | with_reducible refine IfB_split (fun h => ?_) (fun h => ?_))
  refine append_enc (E := actE) (m := H.length + 1) (ys := [⟨ak, ay, av, aa⟩]) (OwnE.keep0 (OwnE.keep ov (Keep.of_set rfl) (fun b hb e => by cases hb; have := ov.ge e; omega)) (Keep.app none _ _)) se55 az57 td57 (by rw [Enc.row_one]; exact asrc_sl tk55 (Vs.sl (vs_at (st := .full) (by rw [List.getElem?_append_right (by simp)]; simp; exact ⟨rfl, rfl⟩) rfl rfl))) (by decide) (by show (d.length + 1) * _ ≤ _; simp only [actE]; omega) (by simp; omega) ?_
  intro v4 H4 o4 k4 hn4
  have hv4 := o4.one
  repeat' (first | simp only [go_sem, Nat.reduceLT, Nat.reduceEqDiff, Nat.reduceAdd, Nat.reduceMul, Nat.reduceSub, Nat.reduceLeDiff, Int.reduceToNat, Int.reduceNeg, Int.reduceLT, Int.reduceLE, Int.reduceEq, reduceCtorEq, Int.natCast_zero, Int.natCast_one, Int.cast_ofNat_Int, Bool.not_not, false_eq_decide, true_eq_decide, hread0, hreadk, read_cons0, read_consk, astore_h0, astore_hk, hget0, hgetk, hset0, hsetk, hlen, hcat, Nat.add_assoc, Nat.add_zero, Nat.zero_add, List.length_append, and_true, true_and, AV.flat, hv4, one_solid hv4, one_cells hv4, *, -hK, -ov, -hinv, -hdo, -backA, -backN, -hstep, -ho, -hap, -o4, -k4, -hn4, -g0] | with_reducible refine IfB_dec (fun h => ?_) (fun h => ?_) | with_reducible refine Guard_dec (fun h => ?_) (fun h => ?_) | with_reducible refine Guard_ndec (fun h => ?_) (fun h => ?_) | with_reducible refine Guard_not (fun h => ?_) (fun h => ?_) | with_reducible refine IfB_ndec (fun h => ?_) (fun h => ?_) | with_reducible refine IfB_not (fun h => ?_) (fun h => ?_) | with_reducible refine Guard_split (fun h => ?_) (fun h => ?_) | with_reducible refine IfB_split (fun h => ?_) (fun h => ?_))
  exact backA _ _ _ _ (by (repeat (first | exact hs | refine hA _ _ _ (by decide) ?_))) (by simp only [go_sem, Nat.reduceLT, Nat.reduceEqDiff, Nat.reduceAdd, Nat.reduceMul, Nat.reduceSub, Nat.reduceLeDiff, Int.reduceToNat, Int.reduceNeg, Int.reduceLT, Int.reduceLE, Int.reduceEq, reduceCtorEq]) (by simp only [go_sem, Nat.reduceLT, Nat.reduceEqDiff, Nat.reduceAdd, Nat.reduceMul, Nat.reduceSub, Nat.reduceLeDiff, Int.reduceToNat, Int.reduceNeg, Int.reduceLT, Int.reduceLE, Int.reduceEq, reduceCtorEq]) (k4.get (get_app (List.getElem?_set_self hl0) _) (fun e => by have := ov.ge e; omega)) o4 hstep (by have := k4.len; simp at this; omega)
end Go.Proofs.Ytgajdnlkcmjieaa
