import Derived.Test.YtccfhighlpfdmaaTrkH2
set_option linter.unusedSimpArgs false
set_option linter.unusedVariables false
set_option maxRecDepth 100000
set_option maxHeartbeats 4000000
namespace Go.Proofs.Ytccfhighlpfdmaa
open Go Go.Proofs Go.Proofs.PI
theorem name_spec (t : Int) (k : List UInt8) (H : Heap) : WC Try.prog 20 [.int .i64 t, .str k] H fun r H' => r = .agg [.int .i64 t, .str k] ∧ H' = H := by
  refine WC_val fun K hK => ?_
  refine WC_of_body hT Try.func20 rfl (by simp [Try.f20]) (by simp [Try.f20]) (wx_sound hT _ ?_)
  simp only [Try.f20]
  repeat' (first | simp only [go_sem, Nat.reduceLT, Nat.reduceEqDiff, Nat.reduceAdd, Nat.reduceMul, Nat.reduceSub, Nat.reduceLeDiff, Int.reduceToNat, Int.reduceNeg, Int.reduceLT, Int.reduceLE, Int.reduceEq, reduceCtorEq, Int.natCast_zero, Int.natCast_one, Int.cast_ofNat_Int, Bool.not_not, false_eq_decide, true_eq_decide, hread0, hreadk, read_cons0, read_consk, astore_h0, astore_hk, hget0, hgetk, hset0, hsetk, hlen, hcat, Nat.add_assoc, Nat.add_zero, Nat.zero_add, List.length_append, and_true, true_and, AV.flat, *, -hK] | with_reducible refine IfB_dec (fun h => ?_) (fun h => ?_) | with_reducible refine Guard_dec (fun h => ?_) (fun h => ?_) | with_reducible refine Guard_ndec (fun h => ?_) (fun h => ?_) | with_reducible refine Guard_not (fun h => ?_) (fun h => ?_) | with_reducible refine IfB_ndec (fun h => ?_) (fun h => ?_) | with_reducible refine IfB_not (fun h => ?_) (fun h => ?_) | with_reducible refine Guard_split (fun h => ?_) (fun h => ?_) | with_reducible refine IfB_split (fun h => ?_) (fun h => ?_))
  exact hK _ _ (Thaw.agg_row ⟨.int _ _, .str _, trivial⟩) (Keep.app _ _ _)
def twoL : List Tk := [⟨true, []⟩, ⟨true, []⟩]
theorem two_spec (H : Heap) : WC Try.prog 19 [] H fun r H' => r = .agg [tkE.lst twoL] ∧ H' = H := by
  refine WC_val fun K hK => ?_
  refine WC_of_body hT Try.func19 rfl (by simp [Try.f19]) (by simp [Try.f19]) (wx_sound hT _ ?_)
  simp only [Try.f19]
  repeat' (first | simp only [go_sem, Nat.reduceLT, Nat.reduceEqDiff, Nat.reduceAdd, Nat.reduceMul, Nat.reduceSub, Nat.reduceLeDiff, Int.reduceToNat, Int.reduceNeg, Int.reduceLT, Int.reduceLE, Int.reduceEq, reduceCtorEq, Int.natCast_zero, Int.natCast_one, Int.cast_ofNat_Int, Bool.not_not, false_eq_decide, true_eq_decide, hread0, hreadk, read_cons0, read_consk, astore_h0, astore_hk, hget0, hgetk, hset0, hsetk, hlen, hcat, Nat.add_assoc, Nat.add_zero, Nat.zero_add, List.length_append, and_true, true_and, AV.flat, *, -hK] | with_reducible refine IfB_dec (fun h => ?_) (fun h => ?_) | with_reducible refine Guard_dec (fun h => ?_) (fun h => ?_) | with_reducible refine Guard_ndec (fun h => ?_) (fun h => ?_) | with_reducible refine Guard_not (fun h => ?_) (fun h => ?_) | with_reducible refine IfB_ndec (fun h => ?_) (fun h => ?_) | with_reducible refine IfB_not (fun h => ?_) (fun h => ?_) | with_reducible refine Guard_split (fun h => ?_) (fun h => ?_) | with_reducible refine IfB_split (fun h => ?_) (fun h => ?_))
  refine hK _ _ (Thaw.agg_row ⟨?_, trivial⟩) (Keep.app _ _ _)
  refine (show tkE.lst twoL = .lst 2 [.bool true, .lst 0 [], .bool true, .lst 0 []] from rfl) ▸ Thaw.sl (H.length + 1) 0 2 none ⟨[.bool true, .nils, .bool true, .nils], 2, .full⟩ _ (by omega) (by simp) rfl (by simp) fun i a c ha hc => ?_
  rw [Nat.zero_add] at ha
  match i with
  | 0 => cases ha; cases hc; exact .atom _ rfl
  | 1 => cases ha; cases hc; exact .nils
  | 2 => cases ha; cases hc; exact .atom _ rfl
  | 3 => cases ha; cases hc; exact .nils
  | i + 4 => cases ha
theorem trChg_ok {l : List Tk} {cs : List Chg} (hm : trMay l) (he : (changesL cs).2 = 0) : trChg l cs = (runS (l, []) cs, 0) := by unfold trChg; rw [if_pos hm, if_pos he]
def clrC : Chg := ⟨3, 1, [], [], 0, 0, 0, [], 0, 0, false⟩
open Classical in
theorem clr_ok : (changesL [clrC]).2 = 0 := by
  have hm : clrC.mayB = true := by unfold Chg.mayB; exact decide_eq_true ⟨by unfold Chg.goodP clrC; simp, by unfold clrC; simp, by simp [Chg.bare, clrC]⟩
  unfold changesL
  rw [if_neg (by simp), if_neg (by simp [hm]), if_neg]
  have h1 := small_len10 (n := 1) (by decide)
  have h2 : clrC.putL.length ≤ 11 := by
    have := small_len10 (n := 1) (by decide)
    show (small 1).length + 1 ≤ 11; omega
  rw [List.length_append]
  simp only [List.flatMap_cons, List.flatMap_nil, List.append_nil, List.length_cons, List.length_nil]
  show ¬ (small 1).length + clrC.putL.length > 65536
  omega
def nmA (t : Int) (k : UInt8) : Nm := ⟨t, [k]⟩
/-- The names of the loop. -/
def upT : Nat → List Tk × List Pu
  | 0 => (twoL, [])
  | i + 1 => readsL (upT i).1 0 [nmA 2 (UInt8.ofNat (97 + i))]
theorem ex1 : readsL twoL 0 [nmA 1 97, nmA 1 98, nmA 1 97] = ([⟨true, [nmA 1 98, nmA 1 97]⟩, ⟨true, []⟩], []) := by kernel_rfl
theorem ex2 : (upT 17).2 = [⟨0, 2, [97]⟩] := by kernel_rfl
theorem ex3 : readsL twoL 0 [nmA 1 97, nmA 2 97, nmA 1 98] = ([⟨true, [nmA 1 97, nmA 2 97, nmA 1 98]⟩, ⟨true, []⟩], []) := by kernel_rfl
theorem ex4 : runS ([⟨true, [nmA 1 97, nmA 2 97, nmA 1 98]⟩, ⟨true, []⟩], []) [clrC] = ([⟨true, [nmA 2 97]⟩, ⟨true, []⟩], [⟨0, 1, [97]⟩, ⟨0, 1, [98]⟩]) := by kernel_rfl
theorem ex5 : askE twoL 2 = 2 := by kernel_rfl
theorem ex6 : trRead twoL 0 (nmA 4 97) = (([], []), 8) := by kernel_rfl
theorem ex7 : trRead [⟨false, []⟩, ⟨false, []⟩] 0 (nmA 1 97) = (([⟨false, []⟩, ⟨false, []⟩], []), 0) := by kernel_rfl
theorem ex8 : trE [] = 8 := by kernel_rfl
theorem ex9 : trMay twoL := by decide
theorem upT_may : ∀ i, trMay (upT i).1
  | 0 => ex9
  | i + 1 => by
    have := (readsL_may (c := 0) (ns := [nmA 2 (UInt8.ofNat (97 + i))]) (upT_may i) 1).1
    rwa [List.take_of_length_le (by simp)] at this
theorem sameNames_at (xs : List Nm) (hx : xs.length ≤ 1000) (H : Heap) (b : Nat) (hb : H[b]? = some ⟨nmE.row xs, 2, .full⟩) : WC Try.prog 14 [nmE.lst xs, .sl b 0 xs.length none] H fun r H' => r = .bool true ∧ H' = H :=
  WC_lend_val (args := [nmE.lst xs, .sl b 0 xs.length none]) (args' := [nmE.lst xs, nmE.lst xs]) ⟨.atom _ rfl, (OwnE.thaw (E := nmE) (Own.whole (m := 0) (st := .full) (Nat.zero_le _) hb rfl (Enc.row_length _)) (by decide)), trivial⟩ (.cell _ rfl) (fun J => sameNames_refl xs (by omega) J)
theorem samePushes_at (xs : List Pu) (hx : xs.length ≤ 1000) (H : Heap) (b : Nat) (hb : H[b]? = some ⟨puE.row xs, 3, .full⟩) : WC Try.prog 24 [puE.lst xs, .sl b 0 xs.length none] H fun r H' => r = .bool true ∧ H' = H :=
  WC_lend_val (args := [puE.lst xs, .sl b 0 xs.length none]) (args' := [puE.lst xs, puE.lst xs]) ⟨.atom _ rfl, (OwnE.thaw (E := puE) (Own.whole (m := 0) (st := .full) (Nat.zero_le _) hb rfl (Enc.row_length _)) (by decide)), trivial⟩ (.cell _ rfl) (fun J => samePushes_refl xs (by omega) J)
theorem trackNames_walk (H : Heap) (avs : List AV) (h : InpAll T H 9 [] avs) : WC Try.prog 5 avs H fun v _ => v = .bool true := by
  obtain rfl := h.nil
  refine WC_of_K fun K hK => ?_
  have rd := fun (m : Nat) (ts : List Tk) (v : AV) (ns : List Nm) (hm : trMay ts) (hn : ns.length ≤ 1000) J (hv : OwnE nmE m J v ns) => read_spec ts 0 v ns hm hn J hv
  unfold trAv at rd
  refine WC_of_body hT Try.func5 rfl (by simp [Try.f5]) (by simp [Try.f5]) (wx_sound hT _ ?_)
  simp only [Try.f5]
  repeat' (first | simp only [go_sem, Nat.reduceLT, Nat.reduceEqDiff, Nat.reduceAdd, Nat.reduceMul, Nat.reduceSub, Nat.reduceLeDiff, Int.reduceToNat, Int.reduceNeg, Int.reduceLT, Int.reduceLE, Int.reduceEq, reduceCtorEq, Int.natCast_zero, Int.natCast_one, Int.cast_ofNat_Int, Bool.not_not, false_eq_decide, true_eq_decide, hread0, hreadk, read_cons0, read_consk, astore_h0, astore_hk, hget0, hgetk, hset0, hsetk, hlen, hcat, Nat.add_assoc, Nat.add_zero, Nat.zero_add, List.length_append, and_true, true_and, AV.flat, *, -hK, -rd] | refine WC.call (alive_spec _) ?_ | refine WC.call (two_spec _) ?_ | refine WC.call (name_spec _ _ _) ?_ | with_reducible refine IfB_dec (fun h => ?_) (fun h => ?_) | with_reducible refine Guard_dec (fun h => ?_) (fun h => ?_) | with_reducible refine Guard_ndec (fun h => ?_) (fun h => ?_) | with_reducible refine Guard_not (fun h => ?_) (fun h => ?_) | with_reducible refine IfB_ndec (fun h => ?_) (fun h => ?_) | with_reducible refine IfB_not (fun h => ?_) (fun h => ?_) | with_reducible refine Guard_split (fun h => ?_) (fun h => ?_) | with_reducible refine IfB_split (fun h => ?_) (fun h => ?_))
  have rd1 := rd H.length twoL (.sl H.length 0 3 none) [nmA 1 97, nmA 1 98, nmA 1 97] ex9 (by simp) (H ++ [(⟨[.int .i64 1, .str [97], .int .i64 1, .str [98], .int .i64 1, .str [97]], 2, .full⟩ : Blk)]) (Own.whole (st := .full) (Nat.le_refl _) (by simp; exact ⟨rfl, rfl⟩) rfl rfl)
  rw [ex1] at rd1
  simp only at rd1
  refine rd1.mono ?_
  rintro r1 J1 ⟨rfl, rfl⟩
  clear rd1
  have td := fun J => told_spec [⟨true, [nmA 1 98, nmA 1 97]⟩, ⟨true, []⟩] 0 (by simp) (by simp) J
  rw [show askE [⟨true, [nmA 1 98, nmA 1 97]⟩, ⟨true, []⟩] 0 = 0 from by kernel_rfl, if_pos rfl, show (tkAt [⟨true, [nmA 1 98, nmA 1 97]⟩, ⟨true, []⟩] (0 : Int).toNat).ns = [nmA 1 98, nmA 1 97] from rfl] at td
  unfold trAv at td
  repeat' (first | simp only [go_sem, Nat.reduceLT, Nat.reduceEqDiff, Nat.reduceAdd, Nat.reduceMul, Nat.reduceSub, Nat.reduceLeDiff, Int.reduceToNat, Int.reduceNeg, Int.reduceLT, Int.reduceLE, Int.reduceEq, reduceCtorEq, Int.natCast_zero, Int.natCast_one, Int.cast_ofNat_Int, Bool.not_not, false_eq_decide, true_eq_decide, hread0, hreadk, read_cons0, read_consk, astore_h0, astore_hk, hget0, hgetk, hset0, hsetk, hlen, hcat, Nat.add_assoc, Nat.add_zero, Nat.zero_add, List.length_append, and_true, true_and, AV.flat, *, -hK, -rd, -td] | refine WC.call (td _) ?_ | refine WC.call (two_spec _) ?_ | with_reducible refine IfB_dec (fun h => ?_) (fun h => ?_) | with_reducible refine Guard_dec (fun h => ?_) (fun h => ?_) | with_reducible refine Guard_ndec (fun h => ?_) (fun h => ?_) | with_reducible refine Guard_not (fun h => ?_) (fun h => ?_) | with_reducible refine IfB_ndec (fun h => ?_) (fun h => ?_) | with_reducible refine IfB_not (fun h => ?_) (fun h => ?_) | with_reducible refine Guard_split (fun h => ?_) (fun h => ?_) | with_reducible refine IfB_split (fun h => ?_) (fun h => ?_))
  clear td
  generalize hG : (H ++ [(⟨[.int .i64 1, .str [97], .int .i64 1, .str [98], .int .i64 1, .str [97]], 2, .full⟩ : Blk), (⟨[tkE.lst [⟨true, [nmA 1 98, nmA 1 97]⟩, ⟨true, []⟩]], 0, .full⟩ : Blk), (⟨[tkE.lst twoL], 0, .full⟩ : Blk)] : Heap) = G
  have gu : G[H.length + 2]? = some (⟨[tkE.lst (upT 0).1], 0, .full⟩ : Blk) := by rw [← hG, hgetk]; rfl
  clear hG
  refine WX_loopS [3, 4, 5] (fun k fr' J => ∃ (i : Nat) (pv : AV), k = 17 - i ∧ i ≤ 17 ∧ fr'.get 7 = .int .i64 i ∧ fr'.get 6 = pv ∧ (0 < i → pv = puE.lst (upT i).2) ∧ J[H.length + 2]? = some (⟨[tkE.lst (upT i).1], 0, .full⟩ : Blk)) 17 ⟨0, .nils, rfl, by omega, by simp only [go_sem, Nat.reduceLT, Nat.reduceEqDiff, Nat.reduceAdd, Nat.reduceMul, Nat.reduceSub, Nat.reduceLeDiff, Int.reduceToNat, Int.reduceNeg, Int.reduceLT, Int.reduceLE, Int.reduceEq, reduceCtorEq]; rfl, by simp only [go_sem, Nat.reduceLT, Nat.reduceEqDiff, Nat.reduceAdd, Nat.reduceMul, Nat.reduceSub, Nat.reduceLeDiff, Int.reduceToNat, Int.reduceNeg, Int.reduceLT, Int.reduceLE, Int.reduceEq, reduceCtorEq], by simp, gu⟩ ?_
  clear gu G
  rintro k fr' J A R hA hs hg hR ⟨i, pv, rfl, hi, f7, f6, hpv, gu⟩
  have s3 := hg 3 (by decide)
  have s4 := hg 4 (by decide)
  have s5 := hg 5 (by decide)
  simp only [Fr.get_put, Fr.get_init, List.getD_cons_zero, List.getD_cons_succ, Nat.reduceEqDiff, if_true, if_false] at s3 s4 s5
  refine wx_sound hT _ ?_
  by_cases hlt : i < 17
  · have i1 : (i : Int) < 17 := by omega
    have e3 := inc_id hlt (by omega)
    have back : ∀ fr2 J2, A fr2 → fr2.get 7 = .int .i64 ((i + 1 : Nat) : Int) → fr2.get 6 = puE.lst (upT (i + 1)).2 → J2[H.length + 2]? = some (⟨[tkE.lst (upT (i + 1)).1], 0, .full⟩ : Blk) → R fr2 J2 := fun fr2 J2 ha q1 q2 q3 => hR fr2 J2 ha (17 - (i + 1)) (by omega) ⟨i + 1, _, rfl, by omega, q1, q2, fun _ => rfl, q3⟩
    clear hR
    have w1 : IntKind.i64.wrap (97 + (i : Int)) = 97 + i := by rw [IntKind.wrap_i64]; omega
    have w2 : IntKind.u8.wrap (97 + (i : Int)) = 97 + i := by rw [IntKind.wrap_u8]; omega
    repeat' (first | simp only [go_sem, Nat.reduceLT, Nat.reduceEqDiff, Nat.reduceAdd, Nat.reduceMul, Nat.reduceSub, Nat.reduceLeDiff, Int.reduceToNat, Int.reduceNeg, Int.reduceLT, Int.reduceLE, Int.reduceEq, reduceCtorEq, Int.natCast_zero, Int.natCast_one, Int.cast_ofNat_Int, Bool.not_not, false_eq_decide, true_eq_decide, hread0, hreadk, read_cons0, read_consk, astore_h0, astore_hk, hget0, hgetk, hset0, hsetk, hlen, hcat, Nat.add_assoc, Nat.add_zero, Nat.zero_add, List.length_append, and_true, true_and, AV.flat, gu, get_app gu, read_get gu, read_app gu, *, -hK, -rd, -back, -hpv] | refine WC.call (name_spec _ _ _) ?_ | with_reducible refine IfB_dec (fun h => ?_) (fun h => ?_) | with_reducible refine Guard_dec (fun h => ?_) (fun h => ?_) | with_reducible refine Guard_ndec (fun h => ?_) (fun h => ?_) | with_reducible refine Guard_not (fun h => ?_) (fun h => ?_) | with_reducible refine IfB_ndec (fun h => ?_) (fun h => ?_) | with_reducible refine IfB_not (fun h => ?_) (fun h => ?_) | with_reducible refine Guard_split (fun h => ?_) (fun h => ?_) | with_reducible refine IfB_split (fun h => ?_) (fun h => ?_))
    refine WX_rows hT hmix [(0, none), (1, none), (2, none), (3, none), (4, none), (5, none), (6, some [true, true, true, true, true, false]), (7, none), (8, some [true, true, true, true, true, true, true, true]), (9, none), (10, none), (11, none), (12, some [false, true, true, true, true, true, true, true, true, true, true, true]), (13, none)] (by kernel_rfl) ?_
    repeat' (first | simp only [go_sem, Nat.reduceLT, Nat.reduceEqDiff, Nat.reduceAdd, Nat.reduceMul, Nat.reduceSub, Nat.reduceLeDiff, Int.reduceToNat, Int.reduceNeg, Int.reduceLT, Int.reduceLE, Int.reduceEq, reduceCtorEq, Int.natCast_zero, Int.natCast_one, Int.cast_ofNat_Int, Bool.not_not, false_eq_decide, true_eq_decide, hread0, hreadk, read_cons0, read_consk, astore_h0, astore_hk, hget0, hgetk, hset0, hsetk, hlen, hcat, Nat.add_assoc, Nat.add_zero, Nat.zero_add, List.length_append, and_true, true_and, AV.flat, gu, get_app gu, read_get gu, read_app gu, *, -hK, -rd, -back, -hpv] | refine WC.call (name_spec _ _ _) ?_ | with_reducible refine IfB_dec (fun h => ?_) (fun h => ?_) | with_reducible refine Guard_dec (fun h => ?_) (fun h => ?_) | with_reducible refine Guard_ndec (fun h => ?_) (fun h => ?_) | with_reducible refine Guard_not (fun h => ?_) (fun h => ?_) | with_reducible refine IfB_ndec (fun h => ?_) (fun h => ?_) | with_reducible refine IfB_not (fun h => ?_) (fun h => ?_) | with_reducible refine Guard_split (fun h => ?_) (fun h => ?_) | with_reducible refine IfB_split (fun h => ?_) (fun h => ?_))
    have hz : (97 + (i : Int)).toNat = 97 + i := by omega
    simp only [hz]
    have rd1 := rd J.length (upT i).1 (.sl (J.length + 1) 0 1 none) [nmA 2 (UInt8.ofNat (97 + i))] (upT_may i) (by simp) (J ++ [(⟨[.int .u8 (97 + (i : Int))], 1, .full⟩ : Blk), (⟨[.int .i64 2, .str [UInt8.ofNat (97 + i)]], 2, .full⟩ : Blk)]) (Own.whole (st := .full) (by omega) (by rw [hgetk]; rfl) rfl rfl)
    refine rd1.mono ?_
    rintro r1 J1 ⟨rfl, rfl⟩
    have hu : upT (i + 1) = readsL (upT i).1 0 [nmA 2 (UInt8.ofNat (97 + i))] := rfl
    rw [← hu]
    clear rd1 hu
    have gJ := get_app gu [(⟨[.int .u8 (97 + (i : Int))], 1, .full⟩ : Blk), (⟨[.int .i64 2, .str [UInt8.ofNat (97 + i)]], 2, .full⟩ : Blk)]
    have hJ2 := (List.getElem?_eq_some_iff.1 gJ).1
    repeat' (first | simp only [go_sem, Nat.reduceLT, Nat.reduceEqDiff, Nat.reduceAdd, Nat.reduceMul, Nat.reduceSub, Nat.reduceLeDiff, Int.reduceToNat, Int.reduceNeg, Int.reduceLT, Int.reduceLE, Int.reduceEq, reduceCtorEq, Int.natCast_zero, Int.natCast_one, Int.cast_ofNat_Int, Bool.not_not, false_eq_decide, true_eq_decide, hread0, hreadk, read_cons0, read_consk, astore_h0, astore_hk, hget0, hgetk, hset0, hsetk, hlen, hcat, Nat.add_assoc, Nat.add_zero, Nat.zero_add, List.length_append, and_true, true_and, AV.flat, gJ, get_app gJ, read_get gJ, read_app gJ, astore_get gJ, astore_app gJ, get_set gJ, get_set_app gJ, read_set gJ, read_set_app gJ, astore_set gJ, astore_set_app gJ, List.set_set, hget0s, hgetks, hread0s, hreadks, List.length_set, *, -hK, -rd, -back, -hpv, -gu, -hJ2] | refine WC.call (name_spec _ _ _) ?_ | with_reducible refine IfB_dec (fun h => ?_) (fun h => ?_) | with_reducible refine Guard_dec (fun h => ?_) (fun h => ?_) | with_reducible refine Guard_ndec (fun h => ?_) (fun h => ?_) | with_reducible refine Guard_not (fun h => ?_) (fun h => ?_) | with_reducible refine IfB_ndec (fun h => ?_) (fun h => ?_) | with_reducible refine IfB_not (fun h => ?_) (fun h => ?_) | with_reducible refine Guard_split (fun h => ?_) (fun h => ?_) | with_reducible refine IfB_split (fun h => ?_) (fun h => ?_))
    exact back _ _ (by (repeat (first | exact hs | refine hA _ _ _ (by decide) ?_))) (by simp only [go_sem, Nat.reduceLT, Nat.reduceEqDiff, Nat.reduceAdd, Nat.reduceMul, Nat.reduceSub, Nat.reduceLeDiff, Int.reduceToNat, Int.reduceNeg, Int.reduceLT, Int.reduceLE, Int.reduceEq, reduceCtorEq]) (by simp only [go_sem, Nat.reduceLT, Nat.reduceEqDiff, Nat.reduceAdd, Nat.reduceMul, Nat.reduceSub, Nat.reduceLeDiff, Int.reduceToNat, Int.reduceNeg, Int.reduceLT, Int.reduceLE, Int.reduceEq, reduceCtorEq]) (List.getElem?_set_self hJ2)
  have i1 : ¬ (i : Int) < 17 := by omega
  have hie : i = 17 := by omega
  subst hie
  have hp := hpv (by decide)
  rw [ex2] at hp
  subst hp
  clear hpv hg hR
  repeat' (first | simp only [go_sem, Nat.reduceLT, Nat.reduceEqDiff, Nat.reduceAdd, Nat.reduceMul, Nat.reduceSub, Nat.reduceLeDiff, Int.reduceToNat, Int.reduceNeg, Int.reduceLT, Int.reduceLE, Int.reduceEq, reduceCtorEq, Int.natCast_zero, Int.natCast_one, Int.cast_ofNat_Int, Bool.not_not, false_eq_decide, true_eq_decide, hread0, hreadk, read_cons0, read_consk, astore_h0, astore_hk, hget0, hgetk, hset0, hsetk, hlen, hcat, Nat.add_assoc, Nat.add_zero, Nat.zero_add, List.length_append, and_true, true_and, AV.flat, *, -hK, -rd, -gu, -hlt] | refine WC.call (two_spec _) ?_ | refine WC.call (name_spec _ _ _) ?_ | with_reducible refine IfB_dec (fun h => ?_) (fun h => ?_) | with_reducible refine Guard_dec (fun h => ?_) (fun h => ?_) | with_reducible refine Guard_ndec (fun h => ?_) (fun h => ?_) | with_reducible refine Guard_not (fun h => ?_) (fun h => ?_) | with_reducible refine IfB_ndec (fun h => ?_) (fun h => ?_) | with_reducible refine IfB_not (fun h => ?_) (fun h => ?_) | with_reducible refine Guard_split (fun h => ?_) (fun h => ?_) | with_reducible refine IfB_split (fun h => ?_) (fun h => ?_))
  have rd1 := rd J.length twoL (.sl J.length 0 3 none) [nmA 1 97, nmA 2 97, nmA 1 98] ex9 (by simp) (J ++ [(⟨[.int .i64 1, .str [97], .int .i64 2, .str [97], .int .i64 1, .str [98]], 2, .full⟩ : Blk)]) (Own.whole (st := .full) (Nat.le_refl _) (by simp; exact ⟨rfl, rfl⟩) rfl rfl)
  rw [ex3] at rd1
  simp only at rd1
  refine rd1.mono ?_
  rintro r1 J1 ⟨rfl, rfl⟩
  clear rd1 rd
  repeat' (first | simp only [go_sem, Nat.reduceLT, Nat.reduceEqDiff, Nat.reduceAdd, Nat.reduceMul, Nat.reduceSub, Nat.reduceLeDiff, Int.reduceToNat, Int.reduceNeg, Int.reduceLT, Int.reduceLE, Int.reduceEq, reduceCtorEq, Int.natCast_zero, Int.natCast_one, Int.cast_ofNat_Int, Bool.not_not, false_eq_decide, true_eq_decide, hread0, hreadk, read_cons0, read_consk, astore_h0, astore_hk, hget0, hgetk, hset0, hsetk, hlen, hcat, Nat.add_assoc, Nat.add_zero, Nat.zero_add, List.length_append, and_true, true_and, AV.flat, *, -hK, -gu, -hlt] | with_reducible refine IfB_dec (fun h => ?_) (fun h => ?_) | with_reducible refine Guard_dec (fun h => ?_) (fun h => ?_) | with_reducible refine Guard_ndec (fun h => ?_) (fun h => ?_) | with_reducible refine Guard_not (fun h => ?_) (fun h => ?_) | with_reducible refine IfB_ndec (fun h => ?_) (fun h => ?_) | with_reducible refine IfB_not (fun h => ?_) (fun h => ?_) | with_reducible refine Guard_split (fun h => ?_) (fun h => ?_) | with_reducible refine IfB_split (fun h => ?_) (fun h => ?_))
  have cg := fun J => change_spec [⟨true, [nmA 1 97, nmA 2 97, nmA 1 98]⟩, ⟨true, []⟩] [clrC] (by simp) (by simp) (by simp) (fun c hc => by rw [List.mem_singleton.1 hc]; unfold clrC; exact ⟨by simp, by simp, by simp, by simp⟩) J
  unfold trAv at cg
  rw [trChg_ok (by decide) clr_ok, ex4] at cg
  simp only at cg
  refine WC_freezeE [.agg [tkE.lst [⟨true, [nmA 1 97, nmA 2 97, nmA 1 98]⟩, ⟨true, []⟩]], chgE.lst [clrC]] (m := J.length) (E := chgE) (v := .sl (J.length + 2) 0 1 none) (xs := [clrC]) (Own.whole (st := .full) (by omega) (by rw [hgetk]; rfl) rfl rfl) (by decide) ⟨.same _, .here, trivial⟩ ?_
  intro G hF
  refine (cg G).mono ?_
  rintro r2 J2 ⟨rfl, rfl⟩
  clear hF cg gu
  have ons := fun J => on_spec twoL 2 (by decide) (by decide) J
  rw [ex5, if_neg (by decide)] at ons
  have n9 := fun J => new_spec 9 J
  rw [show trNew 9 = ([], 2) from by kernel_rfl] at n9
  have n2 := fun J => new_spec 2 J
  rw [show trNew 2 = ([⟨false, []⟩, ⟨false, []⟩], 0) from by kernel_rfl] at n2
  have r1 := fun J => trRead_spec twoL 0 (nmA 4 97) (by decide) (by decide) J
  rw [ex6] at r1
  have r2 := fun J => trRead_spec [⟨false, []⟩, ⟨false, []⟩] 0 (nmA 1 97) (by decide) (by decide) J
  rw [ex7] at r2
  have ck := fun J => trCheck_spec [] (by decide) (by decide) J
  rw [ex8] at ck
  unfold trAv at ons n9 n2 r1 r2 ck
  simp only [nmA, Nm.av] at r1 r2 n9 n2
  repeat' (first | simp only [go_sem, Nat.reduceLT, Nat.reduceEqDiff, Nat.reduceAdd, Nat.reduceMul, Nat.reduceSub, Nat.reduceLeDiff, Int.reduceToNat, Int.reduceNeg, Int.reduceLT, Int.reduceLE, Int.reduceEq, reduceCtorEq, Int.natCast_zero, Int.natCast_one, Int.cast_ofNat_Int, Bool.not_not, false_eq_decide, true_eq_decide, hread0, hreadk, read_cons0, read_consk, astore_h0, astore_hk, hget0, hgetk, hset0, hsetk, hlen, hcat, Nat.add_assoc, Nat.add_zero, Nat.zero_add, List.length_append, and_true, true_and, AV.flat, *, -hK, -ons, -n9, -n2, -r1, -r2, -ck, -hlt] | refine WC.call (two_spec _) ?_ | refine WC.call (name_spec _ _ _) ?_ | refine WC.call (ons _) ?_ | refine WC.call (n9 _) ?_ | refine WC.call (n2 _) ?_ | refine WC.call (r1 _) ?_ | refine WC.call (r2 _) ?_ | with_reducible refine IfB_dec (fun h => ?_) (fun h => ?_) | with_reducible refine Guard_dec (fun h => ?_) (fun h => ?_) | with_reducible refine Guard_ndec (fun h => ?_) (fun h => ?_) | with_reducible refine Guard_not (fun h => ?_) (fun h => ?_) | with_reducible refine IfB_ndec (fun h => ?_) (fun h => ?_) | with_reducible refine IfB_not (fun h => ?_) (fun h => ?_) | with_reducible refine Guard_split (fun h => ?_) (fun h => ?_) | with_reducible refine IfB_split (fun h => ?_) (fun h => ?_))
  refine WX_rows hT hmix [(0, none), (7, none), (1, some [false, false]), (2, some [true, false, true]), (3, none), (4, none), (5, none), (6, none), (8, some [false, false, true, true, true, true, true, true]), (9, none), (10, none)] (by kernel_rfl) ?_
  repeat' (first | simp only [go_sem, Nat.reduceLT, Nat.reduceEqDiff, Nat.reduceAdd, Nat.reduceMul, Nat.reduceSub, Nat.reduceLeDiff, Int.reduceToNat, Int.reduceNeg, Int.reduceLT, Int.reduceLE, Int.reduceEq, reduceCtorEq, Int.natCast_zero, Int.natCast_one, Int.cast_ofNat_Int, Bool.not_not, false_eq_decide, true_eq_decide, hread0, hreadk, read_cons0, read_consk, astore_h0, astore_hk, hget0, hgetk, hset0, hsetk, hlen, hcat, Nat.add_assoc, Nat.add_zero, Nat.zero_add, List.length_append, and_true, true_and, AV.flat, *, -hK, -ons, -n9, -n2, -r1, -r2, -ck, -hlt] | refine WC.call (two_spec _) ?_ | refine WC.call (name_spec _ _ _) ?_ | refine WC.call (ons _) ?_ | refine WC.call (n9 _) ?_ | refine WC.call (n2 _) ?_ | refine WC.call (r1 _) ?_ | refine WC.call (r2 _) ?_ | with_reducible refine IfB_dec (fun h => ?_) (fun h => ?_) | with_reducible refine Guard_dec (fun h => ?_) (fun h => ?_) | with_reducible refine Guard_ndec (fun h => ?_) (fun h => ?_) | with_reducible refine Guard_not (fun h => ?_) (fun h => ?_) | with_reducible refine IfB_ndec (fun h => ?_) (fun h => ?_) | with_reducible refine IfB_not (fun h => ?_) (fun h => ?_) | with_reducible refine Guard_split (fun h => ?_) (fun h => ?_) | with_reducible refine IfB_split (fun h => ?_) (fun h => ?_))
  refine (sameNames_at [nmA 1 98, nmA 1 97] (by simp) _ _ (by rw [hgetk]; rfl)).mono ?_
  rintro q1 H3 ⟨rfl, rfl⟩
  repeat' (first | simp only [go_sem, Nat.reduceLT, Nat.reduceEqDiff, Nat.reduceAdd, Nat.reduceMul, Nat.reduceSub, Nat.reduceLeDiff, Int.reduceToNat, Int.reduceNeg, Int.reduceLT, Int.reduceLE, Int.reduceEq, reduceCtorEq, Int.natCast_zero, Int.natCast_one, Int.cast_ofNat_Int, Bool.not_not, false_eq_decide, true_eq_decide, hread0, hreadk, read_cons0, read_consk, astore_h0, astore_hk, hget0, hgetk, hset0, hsetk, hlen, hcat, Nat.add_assoc, Nat.add_zero, Nat.zero_add, List.length_append, and_true, true_and, AV.flat, *, -hK, -ons, -n9, -n2, -r1, -r2, -ck, -hlt] | refine WC.call (two_spec _) ?_ | refine WC.call (name_spec _ _ _) ?_ | with_reducible refine IfB_dec (fun h => ?_) (fun h => ?_) | with_reducible refine Guard_dec (fun h => ?_) (fun h => ?_) | with_reducible refine Guard_ndec (fun h => ?_) (fun h => ?_) | with_reducible refine Guard_not (fun h => ?_) (fun h => ?_) | with_reducible refine IfB_ndec (fun h => ?_) (fun h => ?_) | with_reducible refine IfB_not (fun h => ?_) (fun h => ?_) | with_reducible refine Guard_split (fun h => ?_) (fun h => ?_) | with_reducible refine IfB_split (fun h => ?_) (fun h => ?_))
  refine (samePushes_at [⟨0, 2, [97]⟩] (by simp) _ _ (by rw [hgetk]; rfl)).mono ?_
  rintro q1 H3 ⟨rfl, rfl⟩
  repeat' (first | simp only [go_sem, Nat.reduceLT, Nat.reduceEqDiff, Nat.reduceAdd, Nat.reduceMul, Nat.reduceSub, Nat.reduceLeDiff, Int.reduceToNat, Int.reduceNeg, Int.reduceLT, Int.reduceLE, Int.reduceEq, reduceCtorEq, Int.natCast_zero, Int.natCast_one, Int.cast_ofNat_Int, Bool.not_not, false_eq_decide, true_eq_decide, hread0, hreadk, read_cons0, read_consk, astore_h0, astore_hk, hget0, hgetk, hset0, hsetk, hlen, hcat, Nat.add_assoc, Nat.add_zero, Nat.zero_add, List.length_append, and_true, true_and, AV.flat, *, -hK, -ons, -n9, -n2, -r1, -r2, -ck, -hlt] | refine WC.call (two_spec _) ?_ | refine WC.call (name_spec _ _ _) ?_ | with_reducible refine IfB_dec (fun h => ?_) (fun h => ?_) | with_reducible refine Guard_dec (fun h => ?_) (fun h => ?_) | with_reducible refine Guard_ndec (fun h => ?_) (fun h => ?_) | with_reducible refine Guard_not (fun h => ?_) (fun h => ?_) | with_reducible refine IfB_ndec (fun h => ?_) (fun h => ?_) | with_reducible refine IfB_not (fun h => ?_) (fun h => ?_) | with_reducible refine Guard_split (fun h => ?_) (fun h => ?_) | with_reducible refine IfB_split (fun h => ?_) (fun h => ?_))
  refine (samePushes_at [⟨0, 1, [97]⟩, ⟨0, 1, [98]⟩] (by simp) _ _ (by rw [hgetk]; rfl)).mono ?_
  rintro q1 H3 ⟨rfl, rfl⟩
  repeat' (first | simp only [go_sem, Nat.reduceLT, Nat.reduceEqDiff, Nat.reduceAdd, Nat.reduceMul, Nat.reduceSub, Nat.reduceLeDiff, Int.reduceToNat, Int.reduceNeg, Int.reduceLT, Int.reduceLE, Int.reduceEq, reduceCtorEq, Int.natCast_zero, Int.natCast_one, Int.cast_ofNat_Int, Bool.not_not, false_eq_decide, true_eq_decide, hread0, hreadk, read_cons0, read_consk, astore_h0, astore_hk, hget0, hgetk, hset0, hsetk, hlen, hcat, Nat.add_assoc, Nat.add_zero, Nat.zero_add, List.length_append, and_true, true_and, AV.flat, *, -hK, -ons, -n9, -n2, -r1, -r2, -ck, -hlt] | refine WC.call (two_spec _) ?_ | refine WC.call (name_spec _ _ _) ?_ | with_reducible refine IfB_dec (fun h => ?_) (fun h => ?_) | with_reducible refine Guard_dec (fun h => ?_) (fun h => ?_) | with_reducible refine Guard_ndec (fun h => ?_) (fun h => ?_) | with_reducible refine Guard_not (fun h => ?_) (fun h => ?_) | with_reducible refine IfB_ndec (fun h => ?_) (fun h => ?_) | with_reducible refine IfB_not (fun h => ?_) (fun h => ?_) | with_reducible refine Guard_split (fun h => ?_) (fun h => ?_) | with_reducible refine IfB_split (fun h => ?_) (fun h => ?_))
  refine (WC_lend_val (args := [.agg [.nils]]) (args' := [.agg [tkE.lst []]]) ⟨Thaw.agg_row ⟨.nils, trivial⟩, trivial⟩ (.cell _ rfl) ck).mono ?_
  rintro q1 H3 ⟨rfl, rfl⟩
  repeat' (first | simp only [go_sem, Nat.reduceLT, Nat.reduceEqDiff, Nat.reduceAdd, Nat.reduceMul, Nat.reduceSub, Nat.reduceLeDiff, Int.reduceToNat, Int.reduceNeg, Int.reduceLT, Int.reduceLE, Int.reduceEq, reduceCtorEq, Int.natCast_zero, Int.natCast_one, Int.cast_ofNat_Int, Bool.not_not, false_eq_decide, true_eq_decide, hread0, hreadk, read_cons0, read_consk, astore_h0, astore_hk, hget0, hgetk, hset0, hsetk, hlen, hcat, Nat.add_assoc, Nat.add_zero, Nat.zero_add, List.length_append, and_true, true_and, AV.flat, *, -hK, -ons, -n9, -n2, -r1, -r2, -ck, -hlt] | with_reducible refine IfB_dec (fun h => ?_) (fun h => ?_) | with_reducible refine Guard_dec (fun h => ?_) (fun h => ?_) | with_reducible refine Guard_ndec (fun h => ?_) (fun h => ?_) | with_reducible refine Guard_not (fun h => ?_) (fun h => ?_) | with_reducible refine IfB_ndec (fun h => ?_) (fun h => ?_) | with_reducible refine IfB_not (fun h => ?_) (fun h => ?_) | with_reducible refine Guard_split (fun h => ?_) (fun h => ?_) | with_reducible refine IfB_split (fun h => ?_) (fun h => ?_))
  exact hK _ _ rfl
end Go.Proofs.Ytccfhighlpfdmaa
