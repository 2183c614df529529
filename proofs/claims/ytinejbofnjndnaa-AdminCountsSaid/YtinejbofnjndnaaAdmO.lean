import Derived.Test.YtinejbofnjndnaaAdmC
set_option linter.unusedSimpArgs false
set_option linter.unusedVariables false
set_option maxRecDepth 100000
set_option maxHeartbeats 2000000
namespace Go.Proofs.Ytinejbofnjndnaa
open Go Go.Proofs Go.Proofs.PI
/-! ### commands -/
structure Cmd where
  kind : Int
  ten : Int
  keys : List (List UInt8)
  val : List UInt8
  flags : Int
  for_ : Int
  uniq : Int
  by_ : Int
def Cmd.av (c : Cmd) : AV := .agg [.int .u8 c.kind, .int .i64 c.ten, Enc.str.lst c.keys, .str c.val, .int .u32 c.flags, .int .i64 c.for_, .int .u64 c.uniq, .int .u64 c.by_]
def hasL (k : Int) : Int := if k = 1 ∨ k = 10 then 129 else if k = 2 ∨ k = 3 ∨ k = 4 then 142 else if k = 5 then 158 else if k = 6 ∨ k = 7 then 160 else if k = 8 then 130 else if k = 9 then 132 else if k = 11 then 192 else 0
theorem has_spec (k : Int) (H : Heap) : WC Try.prog 49 [.int .u8 k] H fun r H' => r = .int .i64 (hasL k) ∧ H' = H := by
  refine WC_val fun K hK => ?_
  refine WC_of_body hT Try.func49 rfl (by simp [Try.f49]) (by simp [Try.f49]) (wx_sound hT _ ?_)
  simp only [Try.f49]
  repeat' (first | simp only [go_sem, Nat.reduceLT, Nat.reduceEqDiff, Nat.reduceAdd, Nat.reduceMul, Nat.reduceSub, Nat.reduceLeDiff, Int.reduceToNat, Int.reduceNeg, Int.reduceLT, Int.reduceLE, Int.reduceEq, reduceCtorEq, Int.natCast_zero, Int.natCast_one, Int.cast_ofNat_Int, Bool.not_not, false_eq_decide, true_eq_decide, hread0, hreadk, read_cons0, read_consk, astore_h0, astore_hk, hget0, hgetk, hset0, hsetk, hlen, hcat, Nat.add_assoc, Nat.add_zero, Nat.zero_add, List.length_append, and_true, true_and, AV.flat, *, -hK] | with_reducible refine IfB_dec (fun h => ?_) (fun h => ?_) | with_reducible refine Guard_dec (fun h => ?_) (fun h => ?_) | with_reducible refine Guard_ndec (fun h => ?_) (fun h => ?_) | with_reducible refine Guard_not (fun h => ?_) (fun h => ?_) | with_reducible refine IfB_ndec (fun h => ?_) (fun h => ?_) | with_reducible refine IfB_not (fun h => ?_) (fun h => ?_) | with_reducible refine Guard_split (fun h => ?_) (fun h => ?_) | with_reducible refine IfB_split (fun h => ?_) (fun h => ?_))
  all_goals (refine hK _ _ (Thaw.of_eq ?_ rfl) (Keep.refl _ _); congr 1; unfold hasL; first | (subst_vars; rfl) | (simp [*, -hK]; done))
def idxI (o : Option Nat) : Int := match o with
  | some i => (i : Int)
  | none => -1
theorem strIdx_spec (xs : List (List UInt8)) (s : List UInt8) (hn : xs.length ≤ 140737488355328) (H : Heap) :
    WC Try.prog 67 [Enc.str.lst xs, .str s] H fun r H' => r = .int .i64 (idxI (xs.findIdx? fun x => decide (s = x))) ∧ H' = H := by
  refine WC_of_K fun K hK => ?_
  refine WC_of_body hT Try.func67 rfl (by simp [Try.f67]) (by simp [Try.f67]) (wx_sound hT _ ?_)
  simp only [Try.f67]
  repeat' (first | simp only [go_sem, Nat.reduceLT, Nat.reduceEqDiff, Nat.reduceAdd, Nat.reduceMul, Nat.reduceSub, Nat.reduceLeDiff, Int.reduceToNat, Int.reduceNeg, Int.reduceLT, Int.reduceLE, Int.reduceEq, reduceCtorEq, Int.natCast_zero, Int.natCast_one, Int.cast_ofNat_Int, Bool.not_not, false_eq_decide, true_eq_decide, hread0, hreadk, read_cons0, read_consk, astore_h0, astore_hk, hget0, hgetk, hset0, hsetk, hlen, hcat, Nat.add_assoc, Nat.add_zero, Nat.zero_add, List.length_append, and_true, true_and, AV.flat, *, -hK] | with_reducible refine IfB_dec (fun h => ?_) (fun h => ?_) | with_reducible refine Guard_dec (fun h => ?_) (fun h => ?_) | with_reducible refine Guard_ndec (fun h => ?_) (fun h => ?_) | with_reducible refine Guard_not (fun h => ?_) (fun h => ?_) | with_reducible refine IfB_ndec (fun h => ?_) (fun h => ?_) | with_reducible refine IfB_not (fun h => ?_) (fun h => ?_) | with_reducible refine Guard_split (fun h => ?_) (fun h => ?_) | with_reducible refine IfB_split (fun h => ?_) (fun h => ?_))
  refine WX_loopS [0, 1, 7] (fun k fr' H' => ∃ i : Nat, k = xs.length - i ∧ i ≤ xs.length ∧ fr'.get 8 = .int .i64 i ∧ H' = H ∧ ∀ j (hj : j < i) (hx : j < xs.length), ¬ s = xs[j]) xs.length ⟨0, rfl, by omega, by simp only [go_sem, Nat.reduceLT, Nat.reduceEqDiff, Nat.reduceAdd, Nat.reduceMul, Nat.reduceSub, Nat.reduceLeDiff, Int.reduceToNat, Int.reduceNeg, Int.reduceLT, Int.reduceLE, Int.reduceEq, reduceCtorEq]; rfl, rfl, fun j hj => by omega⟩ ?_
  rintro k fr' H' A R hA hs hg hR ⟨i, rfl, hi, f8, rfl, hno⟩
  have s0 := hg 0 (by decide)
  have s1 := hg 1 (by decide)
  have s7 := hg 7 (by decide)
  simp only [Fr.get_put, Fr.get_init, List.getD_cons_zero, List.getD_cons_succ, Nat.reduceEqDiff, if_true, if_false] at s0 s1 s7
  refine wx_sound hT _ ?_
  repeat' (first | simp only [go_sem, Nat.reduceLT, Nat.reduceEqDiff, Nat.reduceAdd, Nat.reduceMul, Nat.reduceSub, Nat.reduceLeDiff, Int.reduceToNat, Int.reduceNeg, Int.reduceLT, Int.reduceLE, Int.reduceEq, reduceCtorEq, Int.natCast_zero, Int.natCast_one, Int.cast_ofNat_Int, Bool.not_not, false_eq_decide, true_eq_decide, hread0, hreadk, read_cons0, read_consk, astore_h0, astore_hk, hget0, hgetk, hset0, hsetk, hlen, hcat, Nat.add_assoc, Nat.add_zero, Nat.zero_add, List.length_append, and_true, true_and, AV.flat, *, -hK] | with_reducible refine IfB_dec (fun h => ?_) (fun h => ?_) | with_reducible refine Guard_dec (fun h => ?_) (fun h => ?_) | with_reducible refine Guard_ndec (fun h => ?_) (fun h => ?_) | with_reducible refine Guard_not (fun h => ?_) (fun h => ?_) | with_reducible refine IfB_ndec (fun h => ?_) (fun h => ?_) | with_reducible refine IfB_not (fun h => ?_) (fun h => ?_) | with_reducible refine Guard_split (fun h => ?_) (fun h => ?_) | with_reducible refine IfB_split (fun h => ?_) (fun h => ?_))
  case refine_1 =>
    have hlt : i < xs.length := by omega
    have e1 := at_enc (E := Enc.str) (k := .i64) se25 hlt rfl
    have e3 := inc_id hlt hn
    have e4 : Enc.str.cells xs[i] = [.str xs[i]] := rfl
    repeat' (first | simp only [go_sem, Nat.reduceLT, Nat.reduceEqDiff, Nat.reduceAdd, Nat.reduceMul, Nat.reduceSub, Nat.reduceLeDiff, Int.reduceToNat, Int.reduceNeg, Int.reduceLT, Int.reduceLE, Int.reduceEq, reduceCtorEq, Int.natCast_zero, Int.natCast_one, Int.cast_ofNat_Int, Bool.not_not, false_eq_decide, true_eq_decide, hread0, hreadk, read_cons0, read_consk, astore_h0, astore_hk, hget0, hgetk, hset0, hsetk, hlen, hcat, Nat.add_assoc, Nat.add_zero, Nat.zero_add, List.length_append, and_true, true_and, AV.flat, *, -hK] | with_reducible refine IfB_dec (fun h => ?_) (fun h => ?_) | with_reducible refine Guard_dec (fun h => ?_) (fun h => ?_) | with_reducible refine Guard_ndec (fun h => ?_) (fun h => ?_) | with_reducible refine Guard_not (fun h => ?_) (fun h => ?_) | with_reducible refine IfB_ndec (fun h => ?_) (fun h => ?_) | with_reducible refine IfB_not (fun h => ?_) (fun h => ?_) | with_reducible refine Guard_split (fun h => ?_) (fun h => ?_) | with_reducible refine IfB_split (fun h => ?_) (fun h => ?_))
    case refine_1 =>
      refine hK _ _ ⟨?_, rfl⟩
      have : xs.findIdx? (fun x => decide (s = x)) = some i := by
        rw [List.findIdx?_eq_some_iff_getElem]
        exact ⟨hlt, by simp [h], fun j hj => by simpa using hno j hj (by omega)⟩
      rw [this]; rfl
    case refine_2 =>
      refine hR _ _ (by (repeat (first | exact hs | refine hA _ _ _ (by decide) ?_))) (xs.length - (i + 1)) (by omega) ⟨i + 1, rfl, by omega, by simp only [go_sem, Nat.reduceLT, Nat.reduceEqDiff, Nat.reduceAdd, Nat.reduceMul, Nat.reduceSub, Nat.reduceLeDiff, Int.reduceToNat, Int.reduceNeg, Int.reduceLT, Int.reduceLE, Int.reduceEq, reduceCtorEq], rfl, fun j hj hx => ?_⟩
      · by_cases e : j = i
        · subst e; exact h
        · exact hno j (by omega) hx
  case refine_2 =>
    repeat' (first | simp only [go_sem, Nat.reduceLT, Nat.reduceEqDiff, Nat.reduceAdd, Nat.reduceMul, Nat.reduceSub, Nat.reduceLeDiff, Int.reduceToNat, Int.reduceNeg, Int.reduceLT, Int.reduceLE, Int.reduceEq, reduceCtorEq, Int.natCast_zero, Int.natCast_one, Int.cast_ofNat_Int, Bool.not_not, false_eq_decide, true_eq_decide, hread0, hreadk, read_cons0, read_consk, astore_h0, astore_hk, hget0, hgetk, hset0, hsetk, hlen, hcat, Nat.add_assoc, Nat.add_zero, Nat.zero_add, List.length_append, and_true, true_and, AV.flat, *, -hK] | with_reducible refine IfB_dec (fun h => ?_) (fun h => ?_) | with_reducible refine Guard_dec (fun h => ?_) (fun h => ?_) | with_reducible refine Guard_ndec (fun h => ?_) (fun h => ?_) | with_reducible refine Guard_not (fun h => ?_) (fun h => ?_) | with_reducible refine IfB_ndec (fun h => ?_) (fun h => ?_) | with_reducible refine IfB_not (fun h => ?_) (fun h => ?_) | with_reducible refine Guard_split (fun h => ?_) (fun h => ?_) | with_reducible refine IfB_split (fun h => ?_) (fun h => ?_))
    refine hK _ _ ⟨?_, rfl⟩
    have : xs.findIdx? (fun x => decide (s = x)) = none := by
      rw [List.findIdx?_eq_none_iff]
      intro x hx
      obtain ⟨j, hj, rfl⟩ := List.getElem_of_mem hx
      simpa using hno j (by omega) hj
    rw [this]; rfl
theorem strHas_spec (xs : List (List UInt8)) (s : List UInt8) (hn : xs.length ≤ 140737488355328) (H : Heap) :
    WC Try.prog 64 [Enc.str.lst xs, .str s] H fun r H' => r = .bool (decide (s ∈ xs)) ∧ H' = H := by
  refine WC_of_K fun K hK => ?_
  refine WC_of_body hT Try.func64 rfl (by simp [Try.f64]) (by simp [Try.f64]) (wx_sound hT _ ?_)
  simp only [Try.f64]
  repeat' (first | simp only [go_sem, Nat.reduceLT, Nat.reduceEqDiff, Nat.reduceAdd, Nat.reduceMul, Nat.reduceSub, Nat.reduceLeDiff, Int.reduceToNat, Int.reduceNeg, Int.reduceLT, Int.reduceLE, Int.reduceEq, reduceCtorEq, Int.natCast_zero, Int.natCast_one, Int.cast_ofNat_Int, Bool.not_not, false_eq_decide, true_eq_decide, hread0, hreadk, read_cons0, read_consk, astore_h0, astore_hk, hget0, hgetk, hset0, hsetk, hlen, hcat, Nat.add_assoc, Nat.add_zero, Nat.zero_add, List.length_append, and_true, true_and, AV.flat, *, -hK] | refine WC.call (strIdx_spec xs s hn _) ?_ | with_reducible refine IfB_dec (fun h => ?_) (fun h => ?_) | with_reducible refine Guard_dec (fun h => ?_) (fun h => ?_) | with_reducible refine Guard_ndec (fun h => ?_) (fun h => ?_) | with_reducible refine Guard_not (fun h => ?_) (fun h => ?_) | with_reducible refine IfB_ndec (fun h => ?_) (fun h => ?_) | with_reducible refine IfB_not (fun h => ?_) (fun h => ?_) | with_reducible refine Guard_split (fun h => ?_) (fun h => ?_) | with_reducible refine IfB_split (fun h => ?_) (fun h => ?_))
  refine hK _ _ ⟨?_, rfl⟩
  congr 1
  cases hf : xs.findIdx? (fun x => decide (s = x)) with
  | none =>
    rw [List.findIdx?_eq_none_iff] at hf
    have : ¬ s ∈ xs := fun h => by have := hf s h; simp at this
    simp [this, idxI]
  | some i =>
    rw [List.findIdx?_eq_some_iff_getElem] at hf
    obtain ⟨hi, hp1, _⟩ := hf
    have : s ∈ xs := by simp at hp1; rw [hp1]; exact List.getElem_mem hi
    simp [this, idxI]
def kGo : List (List UInt8) → List (List UInt8) → Bool
  | _, [] => true
  | pre, k :: l => decide (1 ≤ k.length ∧ k.length ≤ 32) && !decide (k ∈ pre) && kGo (pre ++ [k]) l
theorem kGo_step {xs : List (List UInt8)} {i : Nat} (h : i < xs.length) : kGo (xs.take i) (xs.drop i) = (decide (1 ≤ xs[i].length ∧ xs[i].length ≤ 32) && !decide (xs[i] ∈ xs.take i) && kGo (xs.take (i + 1)) (xs.drop (i + 1))) := by
  rw [List.drop_eq_getElem_cons h, kGo, List.take_succ_eq_append_getElem h]
theorem kGo_iff : ∀ (l pre : List (List UInt8)), kGo pre l = true ↔ (∀ k ∈ l, 1 ≤ k.length ∧ k.length ≤ 32 ∧ k ∉ pre) ∧ l.Nodup
  | [], pre => by simp [kGo]
  | x :: l, pre => by
    rw [kGo, Bool.and_eq_true, kGo_iff l]
    simp only [Bool.and_eq_true, Bool.not_eq_true', decide_eq_true_eq, decide_eq_false_iff_not, List.nodup_cons, List.mem_cons, List.mem_append, List.not_mem_nil, or_false]
    constructor
    · rintro ⟨⟨h1, h2⟩, h3, h4⟩
      refine ⟨fun y hy => ?_, fun hx => (h3 x hx).2.2 (.inr rfl), h4⟩
      rcases hy with rfl | hy
      · exact ⟨h1.1, h1.2, h2⟩
      · exact ⟨(h3 y hy).1, (h3 y hy).2.1, fun hp => (h3 y hy).2.2 (.inl hp)⟩
    · rintro ⟨h1, h2, h3⟩
      refine ⟨⟨⟨(h1 x (.inl rfl)).1, (h1 x (.inl rfl)).2.1⟩, (h1 x (.inl rfl)).2.2⟩, fun y hy => ⟨(h1 y (.inr hy)).1, (h1 y (.inr hy)).2.1, ?_⟩, h3⟩
      rintro (hp | rfl)
      · exact (h1 y (.inr hy)).2.2 hp
      · exact h2 hy
def loK (k : Int) : Int := if k = 11 then 0 else 1
def hiK (k : Int) : Int := if k = 1 ∨ k = 10 then 8 else if k = 11 then 0 else 1
def band (h m : Int) : Int := IntKind.i64.wrap ↑(BitVec.ofInt IntKind.i64.bits h &&& BitVec.ofInt IntKind.i64.bits m).toNat
theorem band_fold (h m : Int) : IntKind.i64.wrap ↑(BitVec.ofInt IntKind.i64.bits h &&& BitVec.ofInt IntKind.i64.bits m).toNat = band h m := rfl
theorem ordKeyed_spec (c : Cmd) (h lo hi : Int) (hn : c.keys.length ≤ 140737488355328)
    (hb : (band h 1 ≠ 0 ∧ lo = 1 ∧ hi = 8) ∨ (band h 1 = 0 ∧ band h 64 = 0 ∧ lo = 1 ∧ hi = 1) ∨ (band h 1 = 0 ∧ band h 64 ≠ 0 ∧ lo = 0 ∧ hi = 0)) (H : Heap) :
    WC Try.prog 50 [c.av, .int .i64 h] H fun r H' => r = .bool (decide (lo ≤ c.keys.length ∧ c.keys.length ≤ hi) && kGo [] c.keys) ∧ H' = H := by
  refine WC_val fun K hK => ?_
  refine WC_of_body hT Try.func50 rfl (by simp [Try.f50]) (by simp [Try.f50]) (wx_sound hT _ ?_)
  simp only [Try.f50]
  rcases hb with ⟨b1, rfl, rfl⟩ | ⟨b1, b2, rfl, rfl⟩ | ⟨b1, b2, rfl, rfl⟩
  all_goals
    have bf := band_fold
    simp only [IntKind.bits] at bf
    repeat' (first | simp only [go_sem, Nat.reduceLT, Nat.reduceEqDiff, Nat.reduceAdd, Nat.reduceMul, Nat.reduceSub, Nat.reduceLeDiff, Int.reduceToNat, Int.reduceNeg, Int.reduceLT, Int.reduceLE, Int.reduceEq, reduceCtorEq, Int.natCast_zero, Int.natCast_one, Int.cast_ofNat_Int, Bool.not_not, false_eq_decide, true_eq_decide, hread0, hreadk, read_cons0, read_consk, astore_h0, astore_hk, hget0, hgetk, hset0, hsetk, hlen, hcat, Nat.add_assoc, Nat.add_zero, Nat.zero_add, List.length_append, and_true, true_and, AV.flat, Cmd.av, bf, *, -hK] | with_reducible refine IfB_dec (fun h => ?_) (fun h => ?_) | with_reducible refine Guard_dec (fun h => ?_) (fun h => ?_) | with_reducible refine Guard_ndec (fun h => ?_) (fun h => ?_) | with_reducible refine Guard_not (fun h => ?_) (fun h => ?_) | with_reducible refine IfB_ndec (fun h => ?_) (fun h => ?_) | with_reducible refine IfB_not (fun h => ?_) (fun h => ?_) | with_reducible refine Guard_split (fun h => ?_) (fun h => ?_) | with_reducible refine IfB_split (fun h => ?_) (fun h => ?_))
    all_goals clear bf
    all_goals try (refine hK _ _ (Thaw.of_eq ?_ rfl) (Keep.app _ _ _); congr 1; symm; rw [Bool.and_eq_false_iff]; left; simp only [decide_eq_false_iff_not]; omega)
    all_goals
      refine WX_loopS [2, 30, 31] (fun k fr' H' => ∃ i : Nat, k = c.keys.length - i ∧ i ≤ c.keys.length ∧ fr'.get 32 = .int .i64 i ∧ H' = H ++ [⟨[.int .u8 c.kind, .int .i64 c.ten, Enc.str.lst c.keys, .str c.val, .int .u32 c.flags, .int .i64 c.for_, .int .u64 c.uniq, .int .u64 c.by_], 0, .full⟩] ∧ kGo [] c.keys = kGo (c.keys.take i) (c.keys.drop i)) c.keys.length ⟨0, rfl, by omega, by simp only [go_sem, Nat.reduceLT, Nat.reduceEqDiff, Nat.reduceAdd, Nat.reduceMul, Nat.reduceSub, Nat.reduceLeDiff, Int.reduceToNat, Int.reduceNeg, Int.reduceLT, Int.reduceLE, Int.reduceEq, reduceCtorEq]; rfl, by simp only [*, -hK], rfl⟩ ?_
      rintro k fr' H' A R hA hs hg hR ⟨i, rfl, hi, f32, rfl, hgood⟩
      have s2 := hg 2 (by decide)
      have s30 := hg 30 (by decide)
      have s31 := hg 31 (by decide)
      simp only [Fr.get_put, Fr.get_init, List.getD_cons_zero, List.getD_cons_succ, Nat.reduceEqDiff, if_true, if_false] at s2 s30 s31
      refine wx_sound hT _ ?_
      repeat' (first | simp only [go_sem, Nat.reduceLT, Nat.reduceEqDiff, Nat.reduceAdd, Nat.reduceMul, Nat.reduceSub, Nat.reduceLeDiff, Int.reduceToNat, Int.reduceNeg, Int.reduceLT, Int.reduceLE, Int.reduceEq, reduceCtorEq, Int.natCast_zero, Int.natCast_one, Int.cast_ofNat_Int, Bool.not_not, false_eq_decide, true_eq_decide, hread0, hreadk, read_cons0, read_consk, astore_h0, astore_hk, hget0, hgetk, hset0, hsetk, hlen, hcat, Nat.add_assoc, Nat.add_zero, Nat.zero_add, List.length_append, and_true, true_and, AV.flat, *, -hK, -hgood] | with_reducible refine IfB_dec (fun h => ?_) (fun h => ?_) | with_reducible refine Guard_dec (fun h => ?_) (fun h => ?_) | with_reducible refine Guard_ndec (fun h => ?_) (fun h => ?_) | with_reducible refine Guard_not (fun h => ?_) (fun h => ?_) | with_reducible refine IfB_ndec (fun h => ?_) (fun h => ?_) | with_reducible refine IfB_not (fun h => ?_) (fun h => ?_) | with_reducible refine Guard_split (fun h => ?_) (fun h => ?_) | with_reducible refine IfB_split (fun h => ?_) (fun h => ?_))
      case refine_1 =>
        have hlt : i < c.keys.length := by omega
        rw [kGo_step hlt] at hgood
        have e1 := at_enc (E := Enc.str) (k := .i64) se25 hlt rfl
        have e2 := fun J => slice_enc (H := J) (E := Enc.str) (xs := c.keys) (l := 0) (u := i) (lo := none) (hi := some (.int .i64 i)) se25 rfl (abound_nat i rfl) (Nat.zero_le _) hi
        have e3 := inc_id hlt (show c.keys.length ≤ 140737488355328 by omega)
        have e4 : Enc.str.cells c.keys[i] = [.str c.keys[i]] := rfl
        have hl : (c.keys.take i).length ≤ 140737488355328 := by rw [List.length_take]; omega
        rw [List.drop_zero] at e2
        repeat' (first | simp only [go_sem, Nat.reduceLT, Nat.reduceEqDiff, Nat.reduceAdd, Nat.reduceMul, Nat.reduceSub, Nat.reduceLeDiff, Int.reduceToNat, Int.reduceNeg, Int.reduceLT, Int.reduceLE, Int.reduceEq, reduceCtorEq, Int.natCast_zero, Int.natCast_one, Int.cast_ofNat_Int, Bool.not_not, false_eq_decide, true_eq_decide, hread0, hreadk, read_cons0, read_consk, astore_h0, astore_hk, hget0, hgetk, hset0, hsetk, hlen, hcat, Nat.add_assoc, Nat.add_zero, Nat.zero_add, List.length_append, and_true, true_and, AV.flat, *, -hK, -hgood] | refine WC.call (strHas_spec (c.keys.take i) _ hl _) ?_ | with_reducible refine IfB_dec (fun h => ?_) (fun h => ?_) | with_reducible refine Guard_dec (fun h => ?_) (fun h => ?_) | with_reducible refine Guard_ndec (fun h => ?_) (fun h => ?_) | with_reducible refine Guard_not (fun h => ?_) (fun h => ?_) | with_reducible refine IfB_ndec (fun h => ?_) (fun h => ?_) | with_reducible refine IfB_not (fun h => ?_) (fun h => ?_) | with_reducible refine Guard_split (fun h => ?_) (fun h => ?_) | with_reducible refine IfB_split (fun h => ?_) (fun h => ?_))
        all_goals first
          | (refine hK _ _ (Thaw.of_eq ?_ rfl) (Keep.app _ _ _); congr 1; rw [hgood]; symm; rw [Bool.and_eq_false_iff]; right; simp [*, -hK]; done)
          | (refine hK _ _ (Thaw.of_eq ?_ rfl) (Keep.app _ _ _); congr 1; rw [hgood]; symm; rw [Bool.and_eq_false_iff]; right; simp [*, -hK]; omega)
          | (refine hR _ _ (by (repeat (first | exact hs | refine hA _ _ _ (by decide) ?_))) (c.keys.length - (i + 1)) (by omega) ⟨i + 1, rfl, by omega, by simp only [go_sem, Nat.reduceLT, Nat.reduceEqDiff, Nat.reduceAdd, Nat.reduceMul, Nat.reduceSub, Nat.reduceLeDiff, Int.reduceToNat, Int.reduceNeg, Int.reduceLT, Int.reduceLE, Int.reduceEq, reduceCtorEq], by simp only [*, -hK, -hR], by rw [hgood]; simp [*, -hK]; try omega⟩)
      case refine_2 =>
        repeat' (first | simp only [go_sem, Nat.reduceLT, Nat.reduceEqDiff, Nat.reduceAdd, Nat.reduceMul, Nat.reduceSub, Nat.reduceLeDiff, Int.reduceToNat, Int.reduceNeg, Int.reduceLT, Int.reduceLE, Int.reduceEq, reduceCtorEq, Int.natCast_zero, Int.natCast_one, Int.cast_ofNat_Int, Bool.not_not, false_eq_decide, true_eq_decide, hread0, hreadk, read_cons0, read_consk, astore_h0, astore_hk, hget0, hgetk, hset0, hsetk, hlen, hcat, Nat.add_assoc, Nat.add_zero, Nat.zero_add, List.length_append, and_true, true_and, AV.flat, *, -hK] | with_reducible refine IfB_dec (fun h => ?_) (fun h => ?_) | with_reducible refine Guard_dec (fun h => ?_) (fun h => ?_) | with_reducible refine Guard_ndec (fun h => ?_) (fun h => ?_) | with_reducible refine Guard_not (fun h => ?_) (fun h => ?_) | with_reducible refine IfB_ndec (fun h => ?_) (fun h => ?_) | with_reducible refine IfB_not (fun h => ?_) (fun h => ?_) | with_reducible refine Guard_split (fun h => ?_) (fun h => ?_) | with_reducible refine IfB_split (fun h => ?_) (fun h => ?_))
        refine hK _ _ (Thaw.of_eq ?_ rfl) (Keep.app _ _ _)
        have : i = c.keys.length := by omega
        rw [this, List.drop_length, kGo] at hgood
        congr 1
        rw [hgood, Bool.and_true]
        symm; rw [decide_eq_true_eq]; omega
def putsP (k : Int) : Prop := 2 ≤ k ∧ k ≤ 5
instance (k : Int) : Decidable (putsP k) := by unfold putsP; infer_instance
def keysB (k : Int) (l : List (List UInt8)) : Bool := decide (loK k ≤ l.length ∧ l.length ≤ hiK k) && kGo [] l
def restB (c : Cmd) : Bool := decide ((c.val.length ≤ 512 ∧ (c.val.length = 0 ∨ (2 ≤ c.kind ∧ c.kind ≤ 5) ∨ c.kind = 8)) ∧ (0 ≤ c.for_ ∧ c.for_ ≤ 1099511627776 ∧ (c.for_ = 0 ∨ (2 ≤ c.kind ∧ c.kind ≤ 5) ∨ c.kind = 9)) ∧ (c.flags = 0 ∨ (2 ≤ c.kind ∧ c.kind ≤ 5)) ∧ (c.uniq = 0 ∨ c.kind = 5) ∧ (c.by_ = 0 ∨ c.kind = 6 ∨ c.kind = 7))
/-- Which commands may be. -/
def cmdB (c : Cmd) : Bool := decide (1 ≤ c.kind ∧ c.kind ≤ 11 ∧ 0 ≤ c.ten ∧ c.ten < 4) && keysB c.kind c.keys && restB c
theorem has_facts (k : Int) : (hasL k = 0 ↔ ¬ (1 ≤ k ∧ k ≤ 11)) ∧ (band (hasL k) 2 = 0 ↔ ¬ (putsP k ∨ k = 8)) ∧ (band (hasL k) 4 = 0 ↔ ¬ (putsP k ∨ k = 9)) ∧ (band (hasL k) 8 = 0 ↔ ¬ putsP k) ∧ (band (hasL k) 16 = 0 ↔ ¬ k = 5) ∧ (band (hasL k) 32 = 0 ↔ ¬ (k = 6 ∨ k = 7)) ∧
    (1 ≤ k ∧ k ≤ 11 → (band (hasL k) 1 ≠ 0 ∧ loK k = 1 ∧ hiK k = 8) ∨ (band (hasL k) 1 = 0 ∧ band (hasL k) 64 = 0 ∧ loK k = 1 ∧ hiK k = 1) ∨ (band (hasL k) 1 = 0 ∧ band (hasL k) 64 ≠ 0 ∧ loK k = 0 ∧ hiK k = 0)) := by
  by_cases h : 1 ≤ k ∧ k ≤ 11
  · have : k = 1 ∨ k = 2 ∨ k = 3 ∨ k = 4 ∨ k = 5 ∨ k = 6 ∨ k = 7 ∨ k = 8 ∨ k = 9 ∨ k = 10 ∨ k = 11 := by omega
    rcases this with rfl | rfl | rfl | rfl | rfl | rfl | rfl | rfl | rfl | rfl | rfl <;> decide
  · have h0 : hasL k = 0 := by
      unfold hasL
      rw [if_neg (by omega), if_neg (by omega), if_neg (by omega), if_neg (by omega), if_neg (by omega), if_neg (by omega), if_neg (by omega)]
    have hp : ¬ putsP k := by unfold putsP; omega
    rw [h0]
    refine ⟨by simp [h], ?_, ?_, ?_, ?_, ?_, fun q => absurd q h⟩
    · simp only [hp, false_or]; exact ⟨fun _ => by omega, fun _ => by decide⟩
    · simp only [hp, false_or]; exact ⟨fun _ => by omega, fun _ => by decide⟩
    · exact ⟨fun _ => hp, fun _ => by decide⟩
    · exact ⟨fun _ => by omega, fun _ => by decide⟩
    · exact ⟨fun _ => by omega, fun _ => by decide⟩
theorem ordMay_spec (c : Cmd) (hn : c.keys.length ≤ 140737488355328) (H : Heap) : WC Try.prog 37 [c.av] H fun r H' => r = .bool (cmdB c) ∧ H' = H := by
  refine WC_val fun K hK => ?_
  obtain ⟨f0, f2, f4, f8, f16, f32, fk⟩ := has_facts c.kind
  refine WC_of_body hT Try.func37 rfl (by simp [Try.f37]) (by simp [Try.f37]) (wx_sound hT _ ?_)
  simp only [Try.f37]
  by_cases hk : 1 ≤ c.kind ∧ c.kind ≤ 11
  · have hks := fun J => ordKeyed_spec c (hasL c.kind) _ _ hn (fk hk) J
    have hh0 : ¬ hasL c.kind = 0 := by rw [f0]; simp [hk]
    have hh := fun J => has_spec c.kind J
    clear fk f0
    generalize hasL c.kind = h at *
    have hkb : (decide (loK c.kind ≤ ↑c.keys.length ∧ ↑c.keys.length ≤ hiK c.kind) && kGo [] c.keys) = keysB c.kind c.keys := rfl
    rw [hkb] at hks
    have hcm : cmdB c = (decide (1 ≤ c.kind ∧ c.kind ≤ 11 ∧ 0 ≤ c.ten ∧ c.ten < 4) && keysB c.kind c.keys && restB c) := rfl
    have hv : (c.val = []) = (c.val.length = 0) := by rw [List.length_eq_zero_iff]
    clear hkb
    generalize keysB c.kind c.keys = q at *
    unfold restB at hcm
    simp only [putsP] at f2 f4 f8
    cases q
    all_goals
      have bf := band_fold
      simp only [IntKind.bits] at bf
      repeat' (first | simp only [go_sem, Nat.reduceLT, Nat.reduceEqDiff, Nat.reduceAdd, Nat.reduceMul, Nat.reduceSub, Nat.reduceLeDiff, Int.reduceToNat, Int.reduceNeg, Int.reduceLT, Int.reduceLE, Int.reduceEq, reduceCtorEq, Int.natCast_zero, Int.natCast_one, Int.cast_ofNat_Int, Bool.not_not, false_eq_decide, true_eq_decide, hread0, hreadk, read_cons0, read_consk, astore_h0, astore_hk, hget0, hgetk, hset0, hsetk, hlen, hcat, Nat.add_assoc, Nat.add_zero, Nat.zero_add, List.length_append, and_true, true_and, AV.flat, Cmd.av, bf, *, -hK, -hks, -f2, -f4, -f8, -f16, -f32, -hk, -hcm, -hh] | refine WC.call (hh _) ?_ | refine WC.call (hks _) ?_ | with_reducible refine IfB_dec (fun h => ?_) (fun h => ?_) | with_reducible refine Guard_dec (fun h => ?_) (fun h => ?_) | with_reducible refine Guard_ndec (fun h => ?_) (fun h => ?_) | with_reducible refine Guard_not (fun h => ?_) (fun h => ?_) | with_reducible refine IfB_ndec (fun h => ?_) (fun h => ?_) | with_reducible refine IfB_not (fun h => ?_) (fun h => ?_) | with_reducible refine Guard_split (fun h => ?_) (fun h => ?_) | with_reducible refine IfB_split (fun h => ?_) (fun h => ?_))
      all_goals
        refine hK _ _ (Thaw.of_eq ?_ rfl) (Keep.app _ _ _)
        congr 1
        rw [hcm, Bool.eq_iff_iff]
        clear hK hh hks hcm hv
        simp only [f2, f4, f8, f16, f32] at *
        clear f2 f4 f8 f16 f32
        simp only [Bool.and_eq_true, Bool.false_eq_true, decide_eq_true_eq, and_true, true_and, false_and, and_false, false_iff, true_iff, not_false_eq_true]
        try omega
  · have h0 : hasL c.kind = 0 := by rw [f0]; exact hk
    repeat' (first | simp only [go_sem, Nat.reduceLT, Nat.reduceEqDiff, Nat.reduceAdd, Nat.reduceMul, Nat.reduceSub, Nat.reduceLeDiff, Int.reduceToNat, Int.reduceNeg, Int.reduceLT, Int.reduceLE, Int.reduceEq, reduceCtorEq, Int.natCast_zero, Int.natCast_one, Int.cast_ofNat_Int, Bool.not_not, false_eq_decide, true_eq_decide, hread0, hreadk, read_cons0, read_consk, astore_h0, astore_hk, hget0, hgetk, hset0, hsetk, hlen, hcat, Nat.add_assoc, Nat.add_zero, Nat.zero_add, List.length_append, and_true, true_and, AV.flat, Cmd.av, *, -hK, -hk] | refine WC.call (has_spec c.kind _) ?_ | with_reducible refine IfB_dec (fun h => ?_) (fun h => ?_) | with_reducible refine Guard_dec (fun h => ?_) (fun h => ?_) | with_reducible refine Guard_ndec (fun h => ?_) (fun h => ?_) | with_reducible refine Guard_not (fun h => ?_) (fun h => ?_) | with_reducible refine IfB_ndec (fun h => ?_) (fun h => ?_) | with_reducible refine IfB_not (fun h => ?_) (fun h => ?_) | with_reducible refine Guard_split (fun h => ?_) (fun h => ?_) | with_reducible refine IfB_split (fun h => ?_) (fun h => ?_))
    refine hK _ _ (Thaw.of_eq ?_ rfl) (Keep.app _ _ _)
    rw [cmdB, decide_eq_false (by omega)]
    simp
def nameE : Enc (Int × List UInt8) := ⟨2, fun n => [.int .i64 n.1, .str n.2], fun _ => rfl, fun x a ha => by
  simp only [List.mem_cons, List.not_mem_nil, or_false] at ha; rcases ha with rfl | rfl <;> rfl⟩
theorem nameE_cells (x : Int × List UInt8) : nameE.cells x = [.int .i64 x.1, .str x.2] := rfl
theorem str_cells (x : List UInt8) : Enc.str.cells x = [.str x] := rfl
theorem int_cells (x : Int) : (Enc.int .i64).cells x = [.int .i64 x] := rfl
def Cmd.cs (c : Cmd) : List AV := [.int .u8 c.kind, .int .i64 c.ten, Enc.str.lst c.keys, .str c.val, .int .u32 c.flags, .int .i64 c.for_, .int .u64 c.uniq, .int .u64 c.by_]
def nameL (c : Cmd) (l : List (List UInt8)) : List (Int × List UInt8) := l.map fun k => (c.ten, k)
theorem nameL_step {c : Cmd} {l : List (List UInt8)} {i : Nat} (h : i < l.length) : nameL c (l.take (i + 1)) = nameL c (l.take i) ++ [(c.ten, l[i])] := by
  rw [nameL, List.take_succ_eq_append_getElem h, List.map_append]; rfl
def ordE (c : Cmd) : Int := if cmdB c then 0 else 100
theorem ordCheck_spec (c : Cmd) (hn : c.keys.length ≤ 1000) (H : Heap) : WC Try.prog 26 [c.av] H fun r H' => r = .int .i64 (ordE c) ∧ H' = H := by
  refine WC_val fun K hK => ?_
  refine WC_of_body hT Try.func26 rfl (by simp [Try.f26]) (by simp [Try.f26]) (wx_sound hT _ ?_)
  simp only [Try.f26]
  repeat' (first | simp only [go_sem, Nat.reduceLT, Nat.reduceEqDiff, Nat.reduceAdd, Nat.reduceMul, Nat.reduceSub, Nat.reduceLeDiff, Int.reduceToNat, Int.reduceNeg, Int.reduceLT, Int.reduceLE, Int.reduceEq, reduceCtorEq, Int.natCast_zero, Int.natCast_one, Int.cast_ofNat_Int, Bool.not_not, false_eq_decide, true_eq_decide, hread0, hreadk, read_cons0, read_consk, astore_h0, astore_hk, hget0, hgetk, hset0, hsetk, hlen, hcat, Nat.add_assoc, Nat.add_zero, Nat.zero_add, List.length_append, and_true, true_and, AV.flat, Cmd.av, *, -hK] | refine WC.call (ordMay_spec c (by omega) _) ?_ | with_reducible refine IfB_dec (fun h => ?_) (fun h => ?_) | with_reducible refine Guard_dec (fun h => ?_) (fun h => ?_) | with_reducible refine Guard_ndec (fun h => ?_) (fun h => ?_) | with_reducible refine Guard_not (fun h => ?_) (fun h => ?_) | with_reducible refine IfB_ndec (fun h => ?_) (fun h => ?_) | with_reducible refine IfB_not (fun h => ?_) (fun h => ?_) | with_reducible refine Guard_split (fun h => ?_) (fun h => ?_) | with_reducible refine IfB_split (fun h => ?_) (fun h => ?_))
  all_goals (refine hK _ _ (Thaw.of_eq ?_ rfl) (Keep.app _ _ _); simp [ordE, *, -hK])
def shE (c : Cmd) (n : Int) : Int := if cmdB c = false then 100 else if n < 1 ∨ n > 4 then 2 else 0
def needB (c : Cmd) (n : Int) (i : Nat) : Bool := decide (c.kind = 11) || c.keys.any fun k => decide ((shardL c.ten k n).1 = i)
def needL (c : Cmd) (n : Int) (m : Nat) : List Int := ((List.range m).filter fun i => needB c n i).map fun i : Nat => (i : Int)
def shL (c : Cmd) (n : Int) : List Int := if shE c n = 0 then needL c n n.toNat else []
theorem needL_step (c : Cmd) (n : Int) (m : Nat) : needL c n (m + 1) = needL c n m ++ if needB c n m then [(m : Int)] else [] := by
  unfold needL
  rw [List.range_succ, List.filter_append, List.map_append]
  congr 1
  cases h : needB c n m <;> simp [h]
theorem needL_len (c : Cmd) (n : Int) (m : Nat) : (needL c n m).length ≤ m := by
  unfold needL
  rw [List.length_map]
  exact Nat.le_trans (List.length_filter_le _ _) (by simp)
def partE (c : Cmd) (sh n : Int) : Int := if shE c n ≠ 0 then shE c n else if sh ∈ shL c n then 0 else 2
def pieceK (c : Cmd) (sh n : Int) (l : List (List UInt8)) : List (List UInt8) := l.filter fun k => decide ((shardL c.ten k n).1 = sh)
def cmd0 : Cmd := ⟨0, 0, [], [], 0, 0, 0, 0⟩
def Cmd.with (c : Cmd) (l : List (List UInt8)) : Cmd := ⟨c.kind, c.ten, l, c.val, c.flags, c.for_, c.uniq, c.by_⟩
def partL (c : Cmd) (sh n : Int) : Cmd := if partE c sh n = 0 then c.with (pieceK c sh n c.keys) else cmd0
def OwnC (m : Nat) (H : Heap) (a : AV) (c : Cmd) : Prop := ∃ v, a = .agg [.int .u8 c.kind, .int .i64 c.ten, v, .str c.val, .int .u32 c.flags, .int .i64 c.for_, .int .u64 c.uniq, .int .u64 c.by_] ∧ OwnE Enc.str m H v c.keys
theorem long_spec (c : Cmd) (hn : c.keys.length ≤ 140737488355328) (H : Heap) : WC Try.prog 8 [c.av] H fun r H' => (∃ b, r = .bool b ∧ (b = false → c.keys.length ≤ 40 ∧ c.val.length ≤ 2000 ∧ ∀ k ∈ c.keys, k.length ≤ 200)) ∧ H' = H := by
  refine WC_froze (Q := fun r => ∃ b, r = .bool b ∧ (b = false → c.keys.length ≤ 40 ∧ c.val.length ≤ 2000 ∧ ∀ k ∈ c.keys, k.length ≤ 200)) ?_
  refine WC_of_K fun K hK => ?_
  refine WC_of_body hT Try.func8 rfl (by simp [Try.f8]) (by simp [Try.f8]) (wx_sound hT _ ?_)
  simp only [Try.f8]
  repeat' (first | simp only [go_sem, Nat.reduceLT, Nat.reduceEqDiff, Nat.reduceAdd, Nat.reduceMul, Nat.reduceSub, Nat.reduceLeDiff, Int.reduceToNat, Int.reduceNeg, Int.reduceLT, Int.reduceLE, Int.reduceEq, reduceCtorEq, Int.natCast_zero, Int.natCast_one, Int.cast_ofNat_Int, Bool.not_not, false_eq_decide, true_eq_decide, hread0, hreadk, read_cons0, read_consk, astore_h0, astore_hk, hget0, hgetk, hset0, hsetk, hlen, hcat, Nat.add_assoc, Nat.add_zero, Nat.zero_add, List.length_append, and_true, true_and, AV.flat, Cmd.av, *, -hK] | with_reducible refine IfB_dec (fun h => ?_) (fun h => ?_) | with_reducible refine Guard_dec (fun h => ?_) (fun h => ?_) | with_reducible refine Guard_ndec (fun h => ?_) (fun h => ?_) | with_reducible refine Guard_not (fun h => ?_) (fun h => ?_) | with_reducible refine IfB_ndec (fun h => ?_) (fun h => ?_) | with_reducible refine IfB_not (fun h => ?_) (fun h => ?_) | with_reducible refine Guard_split (fun h => ?_) (fun h => ?_) | with_reducible refine IfB_split (fun h => ?_) (fun h => ?_))
  all_goals try exact hK _ _ ⟨_, .bool _, Keep.app _ _ _, _, rfl, fun hb => by cases hb⟩
  refine WX_loopS [1] (fun k fr' H' => ∃ i : Nat, k = c.keys.length - i ∧ i ≤ c.keys.length ∧ fr'.get 4 = .int .i64 i ∧ H' = H ++ [⟨c.cs, 0, .full⟩] ∧ ∀ q (hq : q < i) (hx : q < c.keys.length), c.keys[q].length ≤ 200) c.keys.length ⟨0, rfl, by omega, by simp only [go_sem, Nat.reduceLT, Nat.reduceEqDiff, Nat.reduceAdd, Nat.reduceMul, Nat.reduceSub, Nat.reduceLeDiff, Int.reduceToNat, Int.reduceNeg, Int.reduceLT, Int.reduceLE, Int.reduceEq, reduceCtorEq]; rfl, rfl, fun q hq => by omega⟩ ?_
  rintro k fr' H' A R hA hs hg hR ⟨i, rfl, hi, f4, rfl, hall⟩
  have s1 := hg 1 (by decide)
  simp only [Fr.get_put, Fr.get_init, List.getD_cons_zero, List.getD_cons_succ, Nat.reduceEqDiff, if_true, if_false] at s1
  unfold Cmd.cs at hR ⊢
  refine wx_sound hT _ ?_
  repeat' (first | simp only [go_sem, Nat.reduceLT, Nat.reduceEqDiff, Nat.reduceAdd, Nat.reduceMul, Nat.reduceSub, Nat.reduceLeDiff, Int.reduceToNat, Int.reduceNeg, Int.reduceLT, Int.reduceLE, Int.reduceEq, reduceCtorEq, Int.natCast_zero, Int.natCast_one, Int.cast_ofNat_Int, Bool.not_not, false_eq_decide, true_eq_decide, hread0, hreadk, read_cons0, read_consk, astore_h0, astore_hk, hget0, hgetk, hset0, hsetk, hlen, hcat, Nat.add_assoc, Nat.add_zero, Nat.zero_add, List.length_append, and_true, true_and, AV.flat, *, -hK] | with_reducible refine IfB_dec (fun h => ?_) (fun h => ?_) | with_reducible refine Guard_dec (fun h => ?_) (fun h => ?_) | with_reducible refine Guard_ndec (fun h => ?_) (fun h => ?_) | with_reducible refine Guard_not (fun h => ?_) (fun h => ?_) | with_reducible refine IfB_ndec (fun h => ?_) (fun h => ?_) | with_reducible refine IfB_not (fun h => ?_) (fun h => ?_) | with_reducible refine Guard_split (fun h => ?_) (fun h => ?_) | with_reducible refine IfB_split (fun h => ?_) (fun h => ?_))
  case refine_1 =>
    have hlt : i < c.keys.length := by omega
    have e1 := at_enc (E := Enc.str) (k := .i64) se25 hlt rfl
    have e3 := inc_id hlt (show c.keys.length ≤ 140737488355328 by omega)
    repeat' (first | simp only [go_sem, Nat.reduceLT, Nat.reduceEqDiff, Nat.reduceAdd, Nat.reduceMul, Nat.reduceSub, Nat.reduceLeDiff, Int.reduceToNat, Int.reduceNeg, Int.reduceLT, Int.reduceLE, Int.reduceEq, reduceCtorEq, Int.natCast_zero, Int.natCast_one, Int.cast_ofNat_Int, Bool.not_not, false_eq_decide, true_eq_decide, hread0, hreadk, read_cons0, read_consk, astore_h0, astore_hk, hget0, hgetk, hset0, hsetk, hlen, hcat, Nat.add_assoc, Nat.add_zero, Nat.zero_add, List.length_append, and_true, true_and, AV.flat, str_cells, *, -hK] | with_reducible refine IfB_dec (fun h => ?_) (fun h => ?_) | with_reducible refine Guard_dec (fun h => ?_) (fun h => ?_) | with_reducible refine Guard_ndec (fun h => ?_) (fun h => ?_) | with_reducible refine Guard_not (fun h => ?_) (fun h => ?_) | with_reducible refine IfB_ndec (fun h => ?_) (fun h => ?_) | with_reducible refine IfB_not (fun h => ?_) (fun h => ?_) | with_reducible refine Guard_split (fun h => ?_) (fun h => ?_) | with_reducible refine IfB_split (fun h => ?_) (fun h => ?_))
    case refine_1 => exact hK _ _ ⟨_, .bool _, Keep.app _ _ _, _, rfl, fun hb => by cases hb⟩
    case refine_2 =>
      refine hR _ _ (by (repeat (first | exact hs | refine hA _ _ _ (by decide) ?_))) (c.keys.length - (i + 1)) (by omega) ⟨i + 1, rfl, by omega, by simp only [go_sem, Nat.reduceLT, Nat.reduceEqDiff, Nat.reduceAdd, Nat.reduceMul, Nat.reduceSub, Nat.reduceLeDiff, Int.reduceToNat, Int.reduceNeg, Int.reduceLT, Int.reduceLE, Int.reduceEq, reduceCtorEq], rfl, fun q hq hx => ?_⟩
      exact (Classical.em (q = i)).elim (fun e => by subst e; omega) (fun e => hall q (by omega) hx)
  case refine_2 =>
    repeat' (first | simp only [go_sem, Nat.reduceLT, Nat.reduceEqDiff, Nat.reduceAdd, Nat.reduceMul, Nat.reduceSub, Nat.reduceLeDiff, Int.reduceToNat, Int.reduceNeg, Int.reduceLT, Int.reduceLE, Int.reduceEq, reduceCtorEq, Int.natCast_zero, Int.natCast_one, Int.cast_ofNat_Int, Bool.not_not, false_eq_decide, true_eq_decide, hread0, hreadk, read_cons0, read_consk, astore_h0, astore_hk, hget0, hgetk, hset0, hsetk, hlen, hcat, Nat.add_assoc, Nat.add_zero, Nat.zero_add, List.length_append, and_true, true_and, AV.flat, *, -hK] | with_reducible refine IfB_dec (fun h => ?_) (fun h => ?_) | with_reducible refine Guard_dec (fun h => ?_) (fun h => ?_) | with_reducible refine Guard_ndec (fun h => ?_) (fun h => ?_) | with_reducible refine Guard_not (fun h => ?_) (fun h => ?_) | with_reducible refine IfB_ndec (fun h => ?_) (fun h => ?_) | with_reducible refine IfB_not (fun h => ?_) (fun h => ?_) | with_reducible refine Guard_split (fun h => ?_) (fun h => ?_) | with_reducible refine IfB_split (fun h => ?_) (fun h => ?_))
    refine hK _ _ ⟨_, .bool _, Keep.app _ _ _, _, rfl, fun _ => ⟨by omega, by omega, fun k hk => ?_⟩⟩
    obtain ⟨q, hq, rfl⟩ := List.getElem_of_mem hk
    exact hall q (by omega) hq
theorem inp_cmd {n : Nat} {a : AV} (h : InpPV T (n + 4) 29 a) : ∃ c : Cmd, a = c.av ∧ c.keys.length ≤ 140737488355328 := by
  obtain ⟨l, rfl, h'⟩ := h.agg tk29
  obtain ⟨parts, rfl, hl, hp⟩ := InpP.struct tk29 h'
  obtain ⟨p0, p1, p2, p3, p4, p5, p6, p7, rfl⟩ := len8 hl
  obtain ⟨s0, rfl, -⟩ := InpP.int tk5 (hp 0 _ _ rfl rfl)
  obtain ⟨s1, rfl, -⟩ := InpP.int tk3 (hp 1 _ _ rfl rfl)
  obtain ⟨s2, rfl, -, -, hlen⟩ := InpP.slice (E := Enc.str) (Pr := fun _ => True) tk25 (fun x hx => by obtain ⟨s, rfl, -⟩ := InpP.str tk9 hx; exact ⟨s, rfl, trivial⟩) (hp 2 _ _ rfl rfl)
  obtain ⟨s3, rfl, -⟩ := InpP.str tk9 (hp 3 _ _ rfl rfl)
  obtain ⟨s4, rfl, -⟩ := InpP.int tk26 (hp 4 _ _ rfl rfl)
  obtain ⟨s5, rfl, -⟩ := InpP.int tk3 (hp 5 _ _ rfl rfl)
  obtain ⟨s6, rfl, -⟩ := InpP.int tk27 (hp 6 _ _ rfl rfl)
  obtain ⟨s7, rfl, -⟩ := InpP.int tk27 (hp 7 _ _ rfl rfl)
  exact ⟨⟨s0, s1, s2, s3, s4, s5, s6, s7⟩, rfl, by have : s2.length * 16 ≤ reachBytes := hlen _ td9; unfold reachBytes at this; show s2.length ≤ _; omega⟩
/-- A command whose keys are v. -/
def Cmd.avv (c : Cmd) (v : AV) : AV := .agg [.int .u8 c.kind, .int .i64 c.ten, v, .str c.val, .int .u32 c.flags, .int .i64 c.for_, .int .u64 c.uniq, .int .u64 c.by_]
theorem Cmd.lend {c : Cmd} {m : Nat} {H : Heap} {v : AV} (h : OwnE Enc.str m H v c.keys) : Thaw 0 H (c.avv v) c.av :=
  Thaw.agg_row ⟨.int _ _, .int _ _, (h.thaw (by decide)).mono (Nat.zero_le _), .str _, .int _ _, .int _ _, .int _ _, .int _ _, trivial⟩
theorem own_loose {α : Type} {E : Enc α} {m : Nat} {H : Heap} {v : AV} {xs : List α} (h : OwnE E m H v xs) : v.loose = true := by
  rcases h with ⟨rfl, _⟩ | ⟨b, n, st, rest, rfl, _⟩ <;> rfl
theorem str_loose (xs : List (List UInt8)) : ∀ a ∈ Enc.str.row xs, a.loose = true := fun a ha => by
  obtain ⟨x, _, hx⟩ := List.mem_flatMap.1 ha
  simp only [str_cells, List.mem_singleton] at hx; subst hx; rfl
theorem int_loose (xs : List Int) : ∀ a ∈ (Enc.int .i64).row xs, a.loose = true := fun a ha => by
  obtain ⟨x, _, hx⟩ := List.mem_flatMap.1 ha
  simp only [int_cells, List.mem_singleton] at hx; subst hx; rfl
theorem name_loose (xs : List (Int × List UInt8)) : ∀ a ∈ nameE.row xs, a.loose = true := fun a ha => by
  obtain ⟨x, _, hx⟩ := List.mem_flatMap.1 ha
  simp only [nameE_cells, List.mem_cons, List.not_mem_nil, or_false] at hx; rcases hx with rfl | rfl <;> rfl
theorem Nofz.tup2 {a b : AV} (ha : Nofz a) (hb : Nofz b) : Nofz (.tup [a, b]) := .tup _ (Nofz.row fun x hx => by
  simp only [List.mem_cons, List.not_mem_nil, or_false] at hx; rcases hx with rfl | rfl <;> assumption)
theorem check_lent (c : Cmd) (hn : c.keys.length ≤ 1000) {m : Nat} {H : Heap} {v : AV} (h : OwnE Enc.str m H v c.keys) : WC Try.prog 26 [c.avv v] H fun r H' => r = .int .i64 (ordE c) ∧ H' = H :=
  WC_lend_val (args := [c.avv v]) (args' := [c.av]) ⟨Cmd.lend h, trivial⟩ (.cell _ rfl) (fun J => ordCheck_spec c hn J)
end Go.Proofs.Ytinejbofnjndnaa
