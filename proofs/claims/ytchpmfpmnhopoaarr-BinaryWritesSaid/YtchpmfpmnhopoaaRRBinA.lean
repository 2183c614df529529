import Derived.Test.YtchpmfpmnhopoaaRRBinaryTd
import Derived.Test.YtchpmfpmnhopoaaRRPiS
import Derived.Test.YtchpmfpmnhopoaaRRPiU
import Derived.Test.YtchpmfpmnhopoaaRRPiSem
set_option linter.unusedSimpArgs false
set_option linter.unusedVariables false
set_option maxRecDepth 100000
set_option maxHeartbeats 2000000
namespace Go.Proofs.YtchpmfpmnhopoaaRR
open Go Go.Proofs Go.Proofs.PI
theorem i64_idb (x : Int) (h0 : -9223372036854775808 ≤ x) (h1 : x < 9223372036854775808) : IntKind.i64.wrap x = x := by
  rw [IntKind.wrap_i64]; omega
/-! ### packets: what is said -/
def be32 (l : List UInt8) : Nat := (l.getD 2 0).toNat * 16777216 + (l.getD 3 0).toNat * 65536 + (l.getD 4 0).toNat * 256 + (l.getD 5 0).toNat
theorem be32_lt (l : List UInt8) : be32 l < 4294967296 := by
  have h2 := (l.getD 2 0).toNat_lt
  have h3 := (l.getD 3 0).toNat_lt
  have h4 := (l.getD 4 0).toNat_lt
  have h5 := (l.getD 5 0).toNat_lt
  unfold be32; omega
def packetL (a b : UInt8) (l : List UInt8) : List UInt8 := [a, b, UInt8.ofNat (l.length / 16777216), UInt8.ofNat (l.length / 65536), UInt8.ofNat (l.length / 256), UInt8.ofNat l.length] ++ l
def packetE (a b : UInt8) (l : List UInt8) : List UInt8 × Int := if l.length > 4096 then ([], 3) else (packetL a b l, 0)
structure CutR where
  op : UInt8
  body : List UInt8
  n : Nat
  err : Int
def cutB (m : UInt8) (l : List UInt8) : CutR :=
  if l.length > 16384 then ⟨0, [], 0, 3⟩ else if l.length = 0 then ⟨0, [], 0, 0⟩ else if l.getD 0 0 ≠ m ∨ l.length ≥ 6 ∧ be32 l > 4096 then ⟨0, [], 0, 8⟩
  else if l.length < 6 ∨ l.length < 6 + be32 l then ⟨0, [], 0, 0⟩ else ⟨l.getD 1 0, (l.take (6 + be32 l)).drop 6, 6 + be32 l, 0⟩
theorem or32 (x y i z : Nat) (hx : x = z * 2 ^ i) (hy : y < 2 ^ i) (hs : x + y < 4294967296) : IntKind.u32.wrap ((BitVec.ofInt 32 (x : Int) ||| BitVec.ofInt 32 (y : Int)).toNat : Int) = ((x + y : Nat) : Int) := by
  have e1 : (BitVec.ofInt 32 (x : Int)).toNat = x := by simp; omega
  have e2 : (BitVec.ofInt 32 (y : Int)).toNat = y := by simp; omega
  rw [BitVec.toNat_or, e1, e2, hx, ← Nat.shiftLeft_eq, ← Nat.shiftLeft_add_eq_or_of_lt hy, Nat.shiftLeft_eq, ← hx, IntKind.wrap_u32]
  omega
theorem getD_at {l : List UInt8} {i : Nat} (h : i < l.length) : l[i] = l.getD i 0 := by simp [List.getD, h]
theorem size_bits {x2 x3 x4 x5 : Nat} (h2 : x2 < 256) (h3 : x3 < 256) (h4 : x4 < 256) (h5 : x5 < 256) : IntKind.i64.wrap (IntKind.u32.wrap ((BitVec.ofInt 32 (IntKind.u32.wrap ((BitVec.ofInt 32 (IntKind.u32.wrap ((BitVec.ofInt 32 (IntKind.u32.wrap (IntKind.u32.wrap (x2 : Int) * 2 ^ min 24 32)) ||| BitVec.ofInt 32 (IntKind.u32.wrap (IntKind.u32.wrap (x3 : Int) * 2 ^ min 16 32))).toNat : Int)) ||| BitVec.ofInt 32 (IntKind.u32.wrap (IntKind.u32.wrap (x4 : Int) * 2 ^ min 8 32))).toNat : Int)) ||| BitVec.ofInt 32 (IntKind.u32.wrap (x5 : Int))).toNat : Int)) = ((x2 * 16777216 + x3 * 65536 + x4 * 256 + x5 : Nat) : Int) := by
  have p1 : (2 : Int) ^ min 24 32 = 16777216 := by decide
  have p2 : (2 : Int) ^ min 16 32 = 65536 := by decide
  have p3 : (2 : Int) ^ min 8 32 = 256 := by decide
  have w2 : IntKind.u32.wrap (IntKind.u32.wrap (x2 : Int) * 2 ^ min 24 32) = ((x2 * 16777216 : Nat) : Int) := by rw [p1, IntKind.wrap_u32, IntKind.wrap_u32]; omega
  have w3 : IntKind.u32.wrap (IntKind.u32.wrap (x3 : Int) * 2 ^ min 16 32) = ((x3 * 65536 : Nat) : Int) := by rw [p2, IntKind.wrap_u32, IntKind.wrap_u32]; omega
  have w4 : IntKind.u32.wrap (IntKind.u32.wrap (x4 : Int) * 2 ^ min 8 32) = ((x4 * 256 : Nat) : Int) := by rw [p3, IntKind.wrap_u32, IntKind.wrap_u32]; omega
  have w5 : IntKind.u32.wrap (x5 : Int) = (x5 : Int) := by rw [IntKind.wrap_u32]; omega
  rw [w2, w3, w4, w5, or32 (x2 * 16777216) (x3 * 65536) 24 x2 (by omega) (by omega) (by omega), or32 (x2 * 16777216 + x3 * 65536) (x4 * 256) 16 (x2 * 256 + x3) (by omega) (by omega) (by omega), or32 (x2 * 16777216 + x3 * 65536 + x4 * 256) x5 8 (x2 * 65536 + x3 * 256 + x4) (by omega) (by omega) (by omega)]
  exact i64_idb _ (by omega) (by omega)
theorem size_spec (v : AV) (l : List UInt8) (hl : 6 ≤ l.length) (H : Heap) (hv : Bs H v l) : WC Try.prog 14 [v] H fun r H' => r = .int .i64 (be32 l) ∧ H' = H := by
  refine WC_of_K fun K hK => ?_
  obtain ⟨b2, o2, e1, e2, -⟩ := hv.at_ se22 (show 2 < l.length by omega) (k := .i64) (z := 2) rfl
  obtain ⟨b3, o3, e3, e4, -⟩ := hv.at_ se22 (show 3 < l.length by omega) (k := .i64) (z := 3) rfl
  obtain ⟨b4, o4, e5, e6, -⟩ := hv.at_ se22 (show 4 < l.length by omega) (k := .i64) (z := 4) rfl
  obtain ⟨b5, o5, e7, e8, -⟩ := hv.at_ se22 (show 5 < l.length by omega) (k := .i64) (z := 5) rfl
  rw [getD_at] at e2 e4 e6 e8
  have h2 := (l.getD 2 0).toNat_lt
  have h3 := (l.getD 3 0).toNat_lt
  have h4 := (l.getD 4 0).toNat_lt
  have h5 := (l.getD 5 0).toNat_lt
  unfold be32 at hK
  generalize (l.getD 2 0).toNat = x2 at *
  generalize (l.getD 3 0).toNat = x3 at *
  generalize (l.getD 4 0).toNat = x4 at *
  generalize (l.getD 5 0).toNat = x5 at *
  refine WC_of_body hT Try.func14 rfl (by simp [Try.f14]) (by simp [Try.f14]) (wx_sound hT _ ?_)
  simp only [Try.f14]
  repeat' (first | simp only [go_sem, Nat.reduceLT, Nat.reduceEqDiff, Nat.reduceAdd, Nat.reduceMul, Nat.reduceSub, Nat.reduceLeDiff, Int.reduceToNat, Int.reduceNeg, Int.reduceLT, Int.reduceLE, Int.reduceEq, reduceCtorEq, Int.natCast_zero, Int.natCast_one, Int.cast_ofNat_Int, Bool.not_not, false_eq_decide, true_eq_decide, hread0, hreadk, read_cons0, read_consk, astore_h0, astore_hk, hget0, hgetk, hset0, hsetk, hlen, hcat, Nat.add_assoc, Nat.add_zero, Nat.zero_add, List.length_append, and_true, true_and, AV.flat, *, -hK] | with_reducible refine IfB_dec (fun h => ?_) (fun h => ?_) | with_reducible refine Guard_dec (fun h => ?_) (fun h => ?_) | with_reducible refine Guard_ndec (fun h => ?_) (fun h => ?_) | with_reducible refine Guard_not (fun h => ?_) (fun h => ?_) | with_reducible refine IfB_ndec (fun h => ?_) (fun h => ?_) | with_reducible refine IfB_not (fun h => ?_) (fun h => ?_) | with_reducible refine Guard_split (fun h => ?_) (fun h => ?_) | with_reducible refine IfB_split (fun h => ?_) (fun h => ?_))
  refine WX_rows hT hmix [(0, none), (1, none), (2, none), (3, none), (4, none), (5, none), (6, none), (7, none), (8, none), (9, none), (10, none), (11, none), (12, none), (13, none), (14, none), (15, none), (16, none), (17, none), (18, none), (19, none), (20, none), (21, none), (22, none), (23, none)] (by kernel_rfl) ?_
  repeat' (first | simp only [go_sem, Nat.reduceLT, Nat.reduceEqDiff, Nat.reduceAdd, Nat.reduceMul, Nat.reduceSub, Nat.reduceLeDiff, Int.reduceToNat, Int.reduceNeg, Int.reduceLT, Int.reduceLE, Int.reduceEq, reduceCtorEq, Int.natCast_zero, Int.natCast_one, Int.cast_ofNat_Int, Bool.not_not, false_eq_decide, true_eq_decide, hread0, hreadk, read_cons0, read_consk, astore_h0, astore_hk, hget0, hgetk, hset0, hsetk, hlen, hcat, Nat.add_assoc, Nat.add_zero, Nat.zero_add, List.length_append, and_true, true_and, AV.flat, *, -hK] | with_reducible refine IfB_dec (fun h => ?_) (fun h => ?_) | with_reducible refine Guard_dec (fun h => ?_) (fun h => ?_) | with_reducible refine Guard_ndec (fun h => ?_) (fun h => ?_) | with_reducible refine Guard_not (fun h => ?_) (fun h => ?_) | with_reducible refine IfB_ndec (fun h => ?_) (fun h => ?_) | with_reducible refine IfB_not (fun h => ?_) (fun h => ?_) | with_reducible refine Guard_split (fun h => ?_) (fun h => ?_) | with_reducible refine IfB_split (fun h => ?_) (fun h => ?_))
  exact hK _ _ ⟨congrArg (AV.int .i64) (size_bits (by omega) (by omega) (by omega) (by omega)), rfl⟩
theorem len_val {x2 x3 x4 x5 : Nat} (h2 : x2 < 256) (h3 : x3 < 256) (h4 : x4 < 256) (h5 : x5 < 256) : IntKind.i64.wrap (IntKind.i64.wrap (IntKind.i64.wrap (IntKind.i64.wrap (IntKind.i64.wrap (x2 : Int) * 16777216) + IntKind.i64.wrap (IntKind.i64.wrap (x3 : Int) * 65536)) + IntKind.i64.wrap (IntKind.i64.wrap (x4 : Int) * 256)) + IntKind.i64.wrap (x5 : Int)) = ((x2 * 16777216 + x3 * 65536 + x4 * 256 + x5 : Nat) : Int) := by
  rw [i64_idb (x2 : Int) (by omega) (by omega), i64_idb (x3 : Int) (by omega) (by omega), i64_idb (x4 : Int) (by omega) (by omega), i64_idb (x5 : Int) (by omega) (by omega), i64_idb ((x2 : Int) * 16777216) (by omega) (by omega), i64_idb ((x3 : Int) * 65536) (by omega) (by omega), i64_idb ((x4 : Int) * 256) (by omega) (by omega)]
  rw [i64_idb ((x2 : Int) * 16777216 + x3 * 65536) (by omega) (by omega), i64_idb ((x2 : Int) * 16777216 + x3 * 65536 + x4 * 256) (by omega) (by omega), i64_idb _ (by omega) (by omega)]
  omega
theorem length_spec (v : AV) (l : List UInt8) (hl : 6 ≤ l.length) (H : Heap) (hv : Bs H v l) : WC Try.prog 16 [v] H fun r H' => r = .int .i64 (be32 l) ∧ H' = H := by
  refine WC_of_K fun K hK => ?_
  obtain ⟨b2, o2, e1, e2, -⟩ := hv.at_ se22 (show 2 < l.length by omega) (k := .i64) (z := 2) rfl
  obtain ⟨b3, o3, e3, e4, -⟩ := hv.at_ se22 (show 3 < l.length by omega) (k := .i64) (z := 3) rfl
  obtain ⟨b4, o4, e5, e6, -⟩ := hv.at_ se22 (show 4 < l.length by omega) (k := .i64) (z := 4) rfl
  obtain ⟨b5, o5, e7, e8, -⟩ := hv.at_ se22 (show 5 < l.length by omega) (k := .i64) (z := 5) rfl
  rw [getD_at] at e2 e4 e6 e8
  have h2 := (l.getD 2 0).toNat_lt
  have h3 := (l.getD 3 0).toNat_lt
  have h4 := (l.getD 4 0).toNat_lt
  have h5 := (l.getD 5 0).toNat_lt
  unfold be32 at hK
  generalize (l.getD 2 0).toNat = x2 at *
  generalize (l.getD 3 0).toNat = x3 at *
  generalize (l.getD 4 0).toNat = x4 at *
  generalize (l.getD 5 0).toNat = x5 at *
  refine WC_of_body hT Try.func16 rfl (by simp [Try.f16]) (by simp [Try.f16]) (wx_sound hT _ ?_)
  simp only [Try.f16]
  repeat' (first | simp only [go_sem, Nat.reduceLT, Nat.reduceEqDiff, Nat.reduceAdd, Nat.reduceMul, Nat.reduceSub, Nat.reduceLeDiff, Int.reduceToNat, Int.reduceNeg, Int.reduceLT, Int.reduceLE, Int.reduceEq, reduceCtorEq, Int.natCast_zero, Int.natCast_one, Int.cast_ofNat_Int, Bool.not_not, false_eq_decide, true_eq_decide, hread0, hreadk, read_cons0, read_consk, astore_h0, astore_hk, hget0, hgetk, hset0, hsetk, hlen, hcat, Nat.add_assoc, Nat.add_zero, Nat.zero_add, List.length_append, and_true, true_and, AV.flat, *, -hK] | with_reducible refine IfB_dec (fun h => ?_) (fun h => ?_) | with_reducible refine Guard_dec (fun h => ?_) (fun h => ?_) | with_reducible refine Guard_ndec (fun h => ?_) (fun h => ?_) | with_reducible refine Guard_not (fun h => ?_) (fun h => ?_) | with_reducible refine IfB_ndec (fun h => ?_) (fun h => ?_) | with_reducible refine IfB_not (fun h => ?_) (fun h => ?_) | with_reducible refine Guard_split (fun h => ?_) (fun h => ?_) | with_reducible refine IfB_split (fun h => ?_) (fun h => ?_))
  refine WX_rows hT hmix [(0, none), (1, none), (2, none), (3, none), (4, none), (5, none), (6, none), (7, none), (8, none), (9, none), (10, none), (11, none), (12, none), (13, none), (14, none), (15, none), (16, none), (17, none), (18, none), (19, none), (20, none), (21, none), (22, none)] (by kernel_rfl) ?_
  repeat' (first | simp only [go_sem, Nat.reduceLT, Nat.reduceEqDiff, Nat.reduceAdd, Nat.reduceMul, Nat.reduceSub, Nat.reduceLeDiff, Int.reduceToNat, Int.reduceNeg, Int.reduceLT, Int.reduceLE, Int.reduceEq, reduceCtorEq, Int.natCast_zero, Int.natCast_one, Int.cast_ofNat_Int, Bool.not_not, false_eq_decide, true_eq_decide, hread0, hreadk, read_cons0, read_consk, astore_h0, astore_hk, hget0, hgetk, hset0, hsetk, hlen, hcat, Nat.add_assoc, Nat.add_zero, Nat.zero_add, List.length_append, and_true, true_and, AV.flat, *, -hK] | with_reducible refine IfB_dec (fun h => ?_) (fun h => ?_) | with_reducible refine Guard_dec (fun h => ?_) (fun h => ?_) | with_reducible refine Guard_ndec (fun h => ?_) (fun h => ?_) | with_reducible refine Guard_not (fun h => ?_) (fun h => ?_) | with_reducible refine IfB_ndec (fun h => ?_) (fun h => ?_) | with_reducible refine IfB_not (fun h => ?_) (fun h => ?_) | with_reducible refine Guard_split (fun h => ?_) (fun h => ?_) | with_reducible refine IfB_split (fun h => ?_) (fun h => ?_))
  exact hK _ _ ⟨congrArg (AV.int .i64) (len_val (by omega) (by omega) (by omega) (by omega)), rfl⟩
theorem packet_bytes (n : Nat) (h : n ≤ 4096) : IntKind.u8.wrap (Int.fdiv (IntKind.u32.wrap (n : Int)) (2 ^ min 24 32)) = ((UInt8.ofNat (n / 16777216)).toNat : Int) ∧ IntKind.u8.wrap (Int.fdiv (IntKind.u32.wrap (n : Int)) (2 ^ min 16 32)) = ((UInt8.ofNat (n / 65536)).toNat : Int) ∧ IntKind.u8.wrap (Int.fdiv (IntKind.u32.wrap (n : Int)) (2 ^ min 8 32)) = ((UInt8.ofNat (n / 256)).toNat : Int) ∧ IntKind.u8.wrap (IntKind.u32.wrap (n : Int)) = ((UInt8.ofNat n).toNat : Int) := by
  have p1 : (2 : Int) ^ min 24 32 = 16777216 := by decide
  have p2 : (2 : Int) ^ min 16 32 = 65536 := by decide
  have p3 : (2 : Int) ^ min 8 32 = 256 := by decide
  have w : IntKind.u32.wrap (n : Int) = (n : Int) := by rw [IntKind.wrap_u32]; omega
  rw [w, p1, p2, p3, Int.fdiv_eq_ediv_of_nonneg _ (by omega), Int.fdiv_eq_ediv_of_nonneg _ (by omega), Int.fdiv_eq_ediv_of_nonneg _ (by omega)]
  simp only [IntKind.wrap_u8, UInt8.toNat_ofNat']
  omega
theorem made_bytes (n : Nat) (h : n ≤ 4096) : IntKind.u8.wrap (IntKind.i64.wrap (Int.tdiv (n : Int) 16777216)) = ((UInt8.ofNat (n / 16777216)).toNat : Int) ∧ IntKind.u8.wrap (IntKind.i64.wrap (Int.tdiv (n : Int) 65536)) = ((UInt8.ofNat (n / 65536)).toNat : Int) ∧ IntKind.u8.wrap (IntKind.i64.wrap (Int.tdiv (n : Int) 256)) = ((UInt8.ofNat (n / 256)).toNat : Int) ∧ IntKind.u8.wrap (n : Int) = ((UInt8.ofNat n).toNat : Int) := by
  rw [Int.tdiv_eq_ediv_of_nonneg (by omega), Int.tdiv_eq_ediv_of_nonneg (by omega), Int.tdiv_eq_ediv_of_nonneg (by omega)]
  simp only [IntKind.wrap_u8, IntKind.wrap_i64, UInt8.toNat_ofNat']
  omega

theorem packet1_spec (a b : UInt8) (v : AV) (l : List UInt8) (hl : l.length ≤ 4096) (H : Heap) (hv : Bs H v l) : WC Try.prog 12 [.int .u8 a.toNat, .int .u8 b.toNat, v] H fun r H' => Ob H.length H' r (packetL a b l) ∧ Keep none H H' := by
  refine WC_of_K fun K hK => ?_
  obtain ⟨w1, w2, w3, w4⟩ := packet_bytes l.length hl
  have al := hv.alen tk22
  refine WC_of_body hT Try.func12 rfl (by simp [Try.f12]) (by simp [Try.f12]) (wx_sound hT _ ?_)
  simp only [Try.f12]
  repeat' (first | simp only [go_sem, Nat.reduceLT, Nat.reduceEqDiff, Nat.reduceAdd, Nat.reduceMul, Nat.reduceSub, Nat.reduceLeDiff, Int.reduceToNat, Int.reduceNeg, Int.reduceLT, Int.reduceLE, Int.reduceEq, reduceCtorEq, Int.natCast_zero, Int.natCast_one, Int.cast_ofNat_Int, Bool.not_not, false_eq_decide, true_eq_decide, hread0, hreadk, read_cons0, read_consk, astore_h0, astore_hk, hget0, hgetk, hset0, hsetk, hlen, hcat, Nat.add_assoc, Nat.add_zero, Nat.zero_add, List.length_append, and_true, true_and, AV.flat, *, -hK] | with_reducible refine IfB_dec (fun h => ?_) (fun h => ?_) | with_reducible refine Guard_dec (fun h => ?_) (fun h => ?_) | with_reducible refine Guard_ndec (fun h => ?_) (fun h => ?_) | with_reducible refine Guard_not (fun h => ?_) (fun h => ?_) | with_reducible refine IfB_ndec (fun h => ?_) (fun h => ?_) | with_reducible refine IfB_not (fun h => ?_) (fun h => ?_) | with_reducible refine Guard_split (fun h => ?_) (fun h => ?_) | with_reducible refine IfB_split (fun h => ?_) (fun h => ?_))
  refine append_ob (snoc_ob (st := .full) [a, b, UInt8.ofNat (l.length / 16777216), UInt8.ofNat (l.length / 65536), UInt8.ofNat (l.length / 256), UInt8.ofNat l.length] rfl rfl rfl (Nat.le_refl _)) se22 az5 td5 rfl ((hv.keep0 (Keep.snoc none H _)).src tk22) (by simp; omega) (by simp) ?_
  intro v' H' h1 h2 h3
  repeat' (first | simp only [go_sem, Nat.reduceLT, Nat.reduceEqDiff, Nat.reduceAdd, Nat.reduceMul, Nat.reduceSub, Nat.reduceLeDiff, Int.reduceToNat, Int.reduceNeg, Int.reduceLT, Int.reduceLE, Int.reduceEq, reduceCtorEq, Int.natCast_zero, Int.natCast_one, Int.cast_ofNat_Int, Bool.not_not, false_eq_decide, true_eq_decide, hread0, hreadk, read_cons0, read_consk, astore_h0, astore_hk, hget0, hgetk, hset0, hsetk, hlen, hcat, Nat.add_assoc, Nat.add_zero, Nat.zero_add, List.length_append, and_true, true_and, AV.flat, *, -hK] | with_reducible refine IfB_dec (fun h => ?_) (fun h => ?_) | with_reducible refine Guard_dec (fun h => ?_) (fun h => ?_) | with_reducible refine Guard_ndec (fun h => ?_) (fun h => ?_) | with_reducible refine Guard_not (fun h => ?_) (fun h => ?_) | with_reducible refine IfB_ndec (fun h => ?_) (fun h => ?_) | with_reducible refine IfB_not (fun h => ?_) (fun h => ?_) | with_reducible refine Guard_split (fun h => ?_) (fun h => ?_) | with_reducible refine IfB_split (fun h => ?_) (fun h => ?_))
  exact hK _ _ ⟨h1, Own.new (snoc_ob (st := .full) [a, b, UInt8.ofNat (l.length / 16777216), UInt8.ofNat (l.length / 65536), UInt8.ofNat (l.length / 256), UInt8.ofNat l.length] rfl rfl rfl (Nat.le_refl _)) (Keep.snoc none H _) h2⟩
theorem made_spec (a b : UInt8) (v : AV) (l : List UInt8) (hl : l.length ≤ 4096) (H : Heap) (hv : Bs H v l) : WC Try.prog 13 [.int .u8 a.toNat, .int .u8 b.toNat, v] H fun r H' => Ob H.length H' r (packetL a b l) ∧ Keep none H H' := by
  refine WC_of_K fun K hK => ?_
  obtain ⟨w1, w2, w3, w4⟩ := made_bytes l.length hl
  have al := hv.alen tk22
  refine WC_of_body hT Try.func13 rfl (by simp [Try.f13]) (by simp [Try.f13]) (wx_sound hT _ ?_)
  simp only [Try.f13]
  repeat' (first | simp only [go_sem, Nat.reduceLT, Nat.reduceEqDiff, Nat.reduceAdd, Nat.reduceMul, Nat.reduceSub, Nat.reduceLeDiff, Int.reduceToNat, Int.reduceNeg, Int.reduceLT, Int.reduceLE, Int.reduceEq, reduceCtorEq, Int.natCast_zero, Int.natCast_one, Int.cast_ofNat_Int, Bool.not_not, false_eq_decide, true_eq_decide, hread0, hreadk, read_cons0, read_consk, astore_h0, astore_hk, hget0, hgetk, hset0, hsetk, hlen, hcat, Nat.add_assoc, Nat.add_zero, Nat.zero_add, List.length_append, and_true, true_and, AV.flat, *, -hK] | with_reducible refine IfB_dec (fun h => ?_) (fun h => ?_) | with_reducible refine Guard_dec (fun h => ?_) (fun h => ?_) | with_reducible refine Guard_ndec (fun h => ?_) (fun h => ?_) | with_reducible refine Guard_not (fun h => ?_) (fun h => ?_) | with_reducible refine IfB_ndec (fun h => ?_) (fun h => ?_) | with_reducible refine IfB_not (fun h => ?_) (fun h => ?_) | with_reducible refine Guard_split (fun h => ?_) (fun h => ?_) | with_reducible refine IfB_split (fun h => ?_) (fun h => ?_))
  refine append_ob (snoc_ob (st := .full) [a, b, UInt8.ofNat (l.length / 16777216), UInt8.ofNat (l.length / 65536), UInt8.ofNat (l.length / 256), UInt8.ofNat l.length] rfl rfl rfl (Nat.le_refl _)) se22 az5 td5 rfl ((hv.keep0 (Keep.snoc none H _)).src tk22) (by simp; omega) (by simp) ?_
  intro v' H' h1 h2 h3
  repeat' (first | simp only [go_sem, Nat.reduceLT, Nat.reduceEqDiff, Nat.reduceAdd, Nat.reduceMul, Nat.reduceSub, Nat.reduceLeDiff, Int.reduceToNat, Int.reduceNeg, Int.reduceLT, Int.reduceLE, Int.reduceEq, reduceCtorEq, Int.natCast_zero, Int.natCast_one, Int.cast_ofNat_Int, Bool.not_not, false_eq_decide, true_eq_decide, hread0, hreadk, read_cons0, read_consk, astore_h0, astore_hk, hget0, hgetk, hset0, hsetk, hlen, hcat, Nat.add_assoc, Nat.add_zero, Nat.zero_add, List.length_append, and_true, true_and, AV.flat, *, -hK] | with_reducible refine IfB_dec (fun h => ?_) (fun h => ?_) | with_reducible refine Guard_dec (fun h => ?_) (fun h => ?_) | with_reducible refine Guard_ndec (fun h => ?_) (fun h => ?_) | with_reducible refine Guard_not (fun h => ?_) (fun h => ?_) | with_reducible refine IfB_ndec (fun h => ?_) (fun h => ?_) | with_reducible refine IfB_not (fun h => ?_) (fun h => ?_) | with_reducible refine Guard_split (fun h => ?_) (fun h => ?_) | with_reducible refine IfB_split (fun h => ?_) (fun h => ?_))
  exact hK _ _ ⟨h1, Own.new (snoc_ob (st := .full) [a, b, UInt8.ofNat (l.length / 16777216), UInt8.ofNat (l.length / 65536), UInt8.ofNat (l.length / 256), UInt8.ofNat l.length] rfl rfl rfl (Nat.le_refl _)) (Keep.snoc none H _) h2⟩
theorem Packet_spec (a b : UInt8) (v : AV) (l : List UInt8) (hl : l.length ≤ 140737488355328) (H : Heap) (hv : Bs H v l) : WC Try.prog 5 [.int .u8 a.toNat, .int .u8 b.toNat, v] H fun r H' => (∃ p, r = .tup [p, .int .i64 (packetE a b l).2] ∧ Ob H.length H' p (packetE a b l).1) ∧ Keep none H H' := by
  refine WC_of_K fun K hK => ?_
  have al := hv.alen tk22
  by_cases h : l.length > 4096
  · have hi : (l.length : Int) > 4096 := by omega
    have e : packetE a b l = ([], 3) := by rw [packetE, if_pos h]
    rw [e] at hK
    clear h e
    refine WC_of_body hT Try.func5 rfl (by simp [Try.f5]) (by simp [Try.f5]) (wx_sound hT _ ?_)
    simp only [Try.f5]
    repeat' (first | simp only [go_sem, Nat.reduceLT, Nat.reduceEqDiff, Nat.reduceAdd, Nat.reduceMul, Nat.reduceSub, Nat.reduceLeDiff, Int.reduceToNat, Int.reduceNeg, Int.reduceLT, Int.reduceLE, Int.reduceEq, reduceCtorEq, Int.natCast_zero, Int.natCast_one, Int.cast_ofNat_Int, Bool.not_not, false_eq_decide, true_eq_decide, hread0, hreadk, read_cons0, read_consk, astore_h0, astore_hk, hget0, hgetk, hset0, hsetk, hlen, hcat, Nat.add_assoc, Nat.add_zero, Nat.zero_add, List.length_append, and_true, true_and, AV.flat, *, -hK] | with_reducible refine IfB_dec (fun h => ?_) (fun h => ?_) | with_reducible refine Guard_dec (fun h => ?_) (fun h => ?_) | with_reducible refine Guard_ndec (fun h => ?_) (fun h => ?_) | with_reducible refine Guard_not (fun h => ?_) (fun h => ?_) | with_reducible refine IfB_ndec (fun h => ?_) (fun h => ?_) | with_reducible refine IfB_not (fun h => ?_) (fun h => ?_) | with_reducible refine Guard_split (fun h => ?_) (fun h => ?_) | with_reducible refine IfB_split (fun h => ?_) (fun h => ?_))
    exact hK _ _ ⟨⟨.nils, rfl, Ob.nils _ _⟩, Keep.refl _ _⟩
  · have hi : ¬ (l.length : Int) > 4096 := by omega
    have e : packetE a b l = (packetL a b l, 0) := by rw [packetE, if_neg h]
    rw [e] at hK
    refine WC_of_body hT Try.func5 rfl (by simp [Try.f5]) (by simp [Try.f5]) (wx_sound hT _ ?_)
    simp only [Try.f5]
    repeat' (first | simp only [go_sem, Nat.reduceLT, Nat.reduceEqDiff, Nat.reduceAdd, Nat.reduceMul, Nat.reduceSub, Nat.reduceLeDiff, Int.reduceToNat, Int.reduceNeg, Int.reduceLT, Int.reduceLE, Int.reduceEq, reduceCtorEq, Int.natCast_zero, Int.natCast_one, Int.cast_ofNat_Int, Bool.not_not, false_eq_decide, true_eq_decide, hread0, hreadk, read_cons0, read_consk, astore_h0, astore_hk, hget0, hgetk, hset0, hsetk, hlen, hcat, Nat.add_assoc, Nat.add_zero, Nat.zero_add, List.length_append, and_true, true_and, AV.flat, *, -hK, -h, -e] | with_reducible refine IfB_dec (fun h => ?_) (fun h => ?_) | with_reducible refine Guard_dec (fun h => ?_) (fun h => ?_) | with_reducible refine Guard_ndec (fun h => ?_) (fun h => ?_) | with_reducible refine Guard_not (fun h => ?_) (fun h => ?_) | with_reducible refine IfB_ndec (fun h => ?_) (fun h => ?_) | with_reducible refine IfB_not (fun h => ?_) (fun h => ?_) | with_reducible refine Guard_split (fun h => ?_) (fun h => ?_) | with_reducible refine IfB_split (fun h => ?_) (fun h => ?_))
    refine (packet1_spec a b v l (by omega) H hv).mono ?_
    rintro r H' ⟨o, k⟩
    repeat' (first | simp only [go_sem, Nat.reduceLT, Nat.reduceEqDiff, Nat.reduceAdd, Nat.reduceMul, Nat.reduceSub, Nat.reduceLeDiff, Int.reduceToNat, Int.reduceNeg, Int.reduceLT, Int.reduceLE, Int.reduceEq, reduceCtorEq, Int.natCast_zero, Int.natCast_one, Int.cast_ofNat_Int, Bool.not_not, false_eq_decide, true_eq_decide, hread0, hreadk, read_cons0, read_consk, astore_h0, astore_hk, hget0, hgetk, hset0, hsetk, hlen, hcat, Nat.add_assoc, Nat.add_zero, Nat.zero_add, List.length_append, and_true, true_and, AV.flat, *, -hK, -h, -e] | with_reducible refine IfB_dec (fun h => ?_) (fun h => ?_) | with_reducible refine Guard_dec (fun h => ?_) (fun h => ?_) | with_reducible refine Guard_ndec (fun h => ?_) (fun h => ?_) | with_reducible refine Guard_not (fun h => ?_) (fun h => ?_) | with_reducible refine IfB_ndec (fun h => ?_) (fun h => ?_) | with_reducible refine IfB_not (fun h => ?_) (fun h => ?_) | with_reducible refine Guard_split (fun h => ?_) (fun h => ?_) | with_reducible refine IfB_split (fun h => ?_) (fun h => ?_))
    exact hK _ _ ⟨⟨r, rfl, o⟩, k⟩
theorem refPacket_spec (a b : UInt8) (v : AV) (l : List UInt8) (hl : l.length ≤ 140737488355328) (H : Heap) (hv : Bs H v l) : WC Try.prog 6 [.int .u8 a.toNat, .int .u8 b.toNat, v] H fun r H' => (∃ p, r = .tup [p, .int .i64 (packetE a b l).2] ∧ Ob H.length H' p (packetE a b l).1) ∧ Keep none H H' := by
  refine WC_of_K fun K hK => ?_
  have al := hv.alen tk22
  by_cases h : l.length > 4096
  · have hi : (l.length : Int) > 4096 := by omega
    have e : packetE a b l = ([], 3) := by rw [packetE, if_pos h]
    rw [e] at hK
    clear h e
    refine WC_of_body hT Try.func6 rfl (by simp [Try.f6]) (by simp [Try.f6]) (wx_sound hT _ ?_)
    simp only [Try.f6]
    repeat' (first | simp only [go_sem, Nat.reduceLT, Nat.reduceEqDiff, Nat.reduceAdd, Nat.reduceMul, Nat.reduceSub, Nat.reduceLeDiff, Int.reduceToNat, Int.reduceNeg, Int.reduceLT, Int.reduceLE, Int.reduceEq, reduceCtorEq, Int.natCast_zero, Int.natCast_one, Int.cast_ofNat_Int, Bool.not_not, false_eq_decide, true_eq_decide, hread0, hreadk, read_cons0, read_consk, astore_h0, astore_hk, hget0, hgetk, hset0, hsetk, hlen, hcat, Nat.add_assoc, Nat.add_zero, Nat.zero_add, List.length_append, and_true, true_and, AV.flat, *, -hK] | with_reducible refine IfB_dec (fun h => ?_) (fun h => ?_) | with_reducible refine Guard_dec (fun h => ?_) (fun h => ?_) | with_reducible refine Guard_ndec (fun h => ?_) (fun h => ?_) | with_reducible refine Guard_not (fun h => ?_) (fun h => ?_) | with_reducible refine IfB_ndec (fun h => ?_) (fun h => ?_) | with_reducible refine IfB_not (fun h => ?_) (fun h => ?_) | with_reducible refine Guard_split (fun h => ?_) (fun h => ?_) | with_reducible refine IfB_split (fun h => ?_) (fun h => ?_))
    exact hK _ _ ⟨⟨.nils, rfl, Ob.nils _ _⟩, Keep.refl _ _⟩
  · have hi : ¬ (l.length : Int) > 4096 := by omega
    have e : packetE a b l = (packetL a b l, 0) := by rw [packetE, if_neg h]
    rw [e] at hK
    refine WC_of_body hT Try.func6 rfl (by simp [Try.f6]) (by simp [Try.f6]) (wx_sound hT _ ?_)
    simp only [Try.f6]
    repeat' (first | simp only [go_sem, Nat.reduceLT, Nat.reduceEqDiff, Nat.reduceAdd, Nat.reduceMul, Nat.reduceSub, Nat.reduceLeDiff, Int.reduceToNat, Int.reduceNeg, Int.reduceLT, Int.reduceLE, Int.reduceEq, reduceCtorEq, Int.natCast_zero, Int.natCast_one, Int.cast_ofNat_Int, Bool.not_not, false_eq_decide, true_eq_decide, hread0, hreadk, read_cons0, read_consk, astore_h0, astore_hk, hget0, hgetk, hset0, hsetk, hlen, hcat, Nat.add_assoc, Nat.add_zero, Nat.zero_add, List.length_append, and_true, true_and, AV.flat, *, -hK, -h, -e] | with_reducible refine IfB_dec (fun h => ?_) (fun h => ?_) | with_reducible refine Guard_dec (fun h => ?_) (fun h => ?_) | with_reducible refine Guard_ndec (fun h => ?_) (fun h => ?_) | with_reducible refine Guard_not (fun h => ?_) (fun h => ?_) | with_reducible refine IfB_ndec (fun h => ?_) (fun h => ?_) | with_reducible refine IfB_not (fun h => ?_) (fun h => ?_) | with_reducible refine Guard_split (fun h => ?_) (fun h => ?_) | with_reducible refine IfB_split (fun h => ?_) (fun h => ?_))
    refine (made_spec a b v l (by omega) H hv).mono ?_
    rintro r H' ⟨o, k⟩
    repeat' (first | simp only [go_sem, Nat.reduceLT, Nat.reduceEqDiff, Nat.reduceAdd, Nat.reduceMul, Nat.reduceSub, Nat.reduceLeDiff, Int.reduceToNat, Int.reduceNeg, Int.reduceLT, Int.reduceLE, Int.reduceEq, reduceCtorEq, Int.natCast_zero, Int.natCast_one, Int.cast_ofNat_Int, Bool.not_not, false_eq_decide, true_eq_decide, hread0, hreadk, read_cons0, read_consk, astore_h0, astore_hk, hget0, hgetk, hset0, hsetk, hlen, hcat, Nat.add_assoc, Nat.add_zero, Nat.zero_add, List.length_append, and_true, true_and, AV.flat, *, -hK, -h, -e] | with_reducible refine IfB_dec (fun h => ?_) (fun h => ?_) | with_reducible refine Guard_dec (fun h => ?_) (fun h => ?_) | with_reducible refine Guard_ndec (fun h => ?_) (fun h => ?_) | with_reducible refine Guard_not (fun h => ?_) (fun h => ?_) | with_reducible refine IfB_ndec (fun h => ?_) (fun h => ?_) | with_reducible refine IfB_not (fun h => ?_) (fun h => ?_) | with_reducible refine Guard_split (fun h => ?_) (fun h => ?_) | with_reducible refine IfB_split (fun h => ?_) (fun h => ?_))
    exact hK _ _ ⟨⟨r, rfl, o⟩, k⟩
theorem cloneb_spec (v : AV) (l : List UInt8) (hl : l.length ≤ 140737488355328) (H : Heap) (hv : Bs H v l) : WC Try.prog 15 [v] H fun r H' => Ob H.length H' r l ∧ Keep none H H' := by
  refine WC_of_K fun K hK => ?_
  refine WC_of_body hT Try.func15 rfl (by simp [Try.f15]) (by simp [Try.f15]) (wx_sound hT _ ?_)
  simp only [Try.f15]
  have key : ∀ K' : AV → Heap → Prop, (∀ r H', Ob H.length H' r l ∧ Keep none H H' → K' r H') → On (aappend T (H ++ [⟨[], 1, .full⟩]) 22 22 (.sl H.length 0 0 none) v) K' := fun K' hK' => by
    refine append_ob (snoc_ob (st := .full) [] rfl rfl rfl (Nat.le_refl _)) se22 az5 td5 rfl ((hv.keep0 (Keep.snoc none H _)).src tk22) (by simpa using hl) (by simp) ?_
    intro v' H' h1 h2 h3
    exact hK' v' H' ⟨h1, Own.new (snoc_ob (st := .full) [] rfl rfl rfl (Nat.le_refl _)) (Keep.snoc none H _) h2⟩
  rcases hv.2 with ⟨rfl, h0⟩ | ⟨rfl, h0⟩ | ⟨b, o, cap, B, rfl, _⟩
  · repeat' (first | simp only [go_sem, Nat.reduceLT, Nat.reduceEqDiff, Nat.reduceAdd, Nat.reduceMul, Nat.reduceSub, Nat.reduceLeDiff, Int.reduceToNat, Int.reduceNeg, Int.reduceLT, Int.reduceLE, Int.reduceEq, reduceCtorEq, Int.natCast_zero, Int.natCast_one, Int.cast_ofNat_Int, Bool.not_not, false_eq_decide, true_eq_decide, hread0, hreadk, read_cons0, read_consk, astore_h0, astore_hk, hget0, hgetk, hset0, hsetk, hlen, hcat, Nat.add_assoc, Nat.add_zero, Nat.zero_add, List.length_append, and_true, true_and, AV.flat, *, -hK] | with_reducible refine IfB_dec (fun h => ?_) (fun h => ?_) | with_reducible refine Guard_dec (fun h => ?_) (fun h => ?_) | with_reducible refine Guard_ndec (fun h => ?_) (fun h => ?_) | with_reducible refine Guard_not (fun h => ?_) (fun h => ?_) | with_reducible refine IfB_ndec (fun h => ?_) (fun h => ?_) | with_reducible refine IfB_not (fun h => ?_) (fun h => ?_) | with_reducible refine Guard_split (fun h => ?_) (fun h => ?_) | with_reducible refine IfB_split (fun h => ?_) (fun h => ?_))
    rw [List.eq_nil_of_length_eq_zero h0] at hK
    exact hK _ _ ⟨Ob.nils _ _, Keep.refl _ _⟩
  · repeat' (first | simp only [go_sem, Nat.reduceLT, Nat.reduceEqDiff, Nat.reduceAdd, Nat.reduceMul, Nat.reduceSub, Nat.reduceLeDiff, Int.reduceToNat, Int.reduceNeg, Int.reduceLT, Int.reduceLE, Int.reduceEq, reduceCtorEq, Int.natCast_zero, Int.natCast_one, Int.cast_ofNat_Int, Bool.not_not, false_eq_decide, true_eq_decide, hread0, hreadk, read_cons0, read_consk, astore_h0, astore_hk, hget0, hgetk, hset0, hsetk, hlen, hcat, Nat.add_assoc, Nat.add_zero, Nat.zero_add, List.length_append, and_true, true_and, AV.flat, *, -hK] | with_reducible refine IfB_dec (fun h => ?_) (fun h => ?_) | with_reducible refine Guard_dec (fun h => ?_) (fun h => ?_) | with_reducible refine Guard_ndec (fun h => ?_) (fun h => ?_) | with_reducible refine Guard_not (fun h => ?_) (fun h => ?_) | with_reducible refine IfB_ndec (fun h => ?_) (fun h => ?_) | with_reducible refine IfB_not (fun h => ?_) (fun h => ?_) | with_reducible refine Guard_split (fun h => ?_) (fun h => ?_) | with_reducible refine IfB_split (fun h => ?_) (fun h => ?_))
    refine key _ ?_
    rintro r H' ⟨h1, h2⟩
    repeat' (first | simp only [go_sem, Nat.reduceLT, Nat.reduceEqDiff, Nat.reduceAdd, Nat.reduceMul, Nat.reduceSub, Nat.reduceLeDiff, Int.reduceToNat, Int.reduceNeg, Int.reduceLT, Int.reduceLE, Int.reduceEq, reduceCtorEq, Int.natCast_zero, Int.natCast_one, Int.cast_ofNat_Int, Bool.not_not, false_eq_decide, true_eq_decide, hread0, hreadk, read_cons0, read_consk, astore_h0, astore_hk, hget0, hgetk, hset0, hsetk, hlen, hcat, Nat.add_assoc, Nat.add_zero, Nat.zero_add, List.length_append, and_true, true_and, AV.flat, *, -hK] | with_reducible refine IfB_dec (fun h => ?_) (fun h => ?_) | with_reducible refine Guard_dec (fun h => ?_) (fun h => ?_) | with_reducible refine Guard_ndec (fun h => ?_) (fun h => ?_) | with_reducible refine Guard_not (fun h => ?_) (fun h => ?_) | with_reducible refine IfB_ndec (fun h => ?_) (fun h => ?_) | with_reducible refine IfB_not (fun h => ?_) (fun h => ?_) | with_reducible refine Guard_split (fun h => ?_) (fun h => ?_) | with_reducible refine IfB_split (fun h => ?_) (fun h => ?_))
    exact hK _ _ ⟨h1, h2⟩
  · repeat' (first | simp only [go_sem, Nat.reduceLT, Nat.reduceEqDiff, Nat.reduceAdd, Nat.reduceMul, Nat.reduceSub, Nat.reduceLeDiff, Int.reduceToNat, Int.reduceNeg, Int.reduceLT, Int.reduceLE, Int.reduceEq, reduceCtorEq, Int.natCast_zero, Int.natCast_one, Int.cast_ofNat_Int, Bool.not_not, false_eq_decide, true_eq_decide, hread0, hreadk, read_cons0, read_consk, astore_h0, astore_hk, hget0, hgetk, hset0, hsetk, hlen, hcat, Nat.add_assoc, Nat.add_zero, Nat.zero_add, List.length_append, and_true, true_and, AV.flat, *, -hK] | with_reducible refine IfB_dec (fun h => ?_) (fun h => ?_) | with_reducible refine Guard_dec (fun h => ?_) (fun h => ?_) | with_reducible refine Guard_ndec (fun h => ?_) (fun h => ?_) | with_reducible refine Guard_not (fun h => ?_) (fun h => ?_) | with_reducible refine IfB_ndec (fun h => ?_) (fun h => ?_) | with_reducible refine IfB_not (fun h => ?_) (fun h => ?_) | with_reducible refine Guard_split (fun h => ?_) (fun h => ?_) | with_reducible refine IfB_split (fun h => ?_) (fun h => ?_))
    refine key _ ?_
    rintro r H' ⟨h1, h2⟩
    repeat' (first | simp only [go_sem, Nat.reduceLT, Nat.reduceEqDiff, Nat.reduceAdd, Nat.reduceMul, Nat.reduceSub, Nat.reduceLeDiff, Int.reduceToNat, Int.reduceNeg, Int.reduceLT, Int.reduceLE, Int.reduceEq, reduceCtorEq, Int.natCast_zero, Int.natCast_one, Int.cast_ofNat_Int, Bool.not_not, false_eq_decide, true_eq_decide, hread0, hreadk, read_cons0, read_consk, astore_h0, astore_hk, hget0, hgetk, hset0, hsetk, hlen, hcat, Nat.add_assoc, Nat.add_zero, Nat.zero_add, List.length_append, and_true, true_and, AV.flat, *, -hK] | with_reducible refine IfB_dec (fun h => ?_) (fun h => ?_) | with_reducible refine Guard_dec (fun h => ?_) (fun h => ?_) | with_reducible refine Guard_ndec (fun h => ?_) (fun h => ?_) | with_reducible refine Guard_not (fun h => ?_) (fun h => ?_) | with_reducible refine IfB_ndec (fun h => ?_) (fun h => ?_) | with_reducible refine IfB_not (fun h => ?_) (fun h => ?_) | with_reducible refine Guard_split (fun h => ?_) (fun h => ?_) | with_reducible refine IfB_split (fun h => ?_) (fun h => ?_))
    exact hK _ _ ⟨h1, h2⟩
theorem cutB_eq (m : UInt8) (l : List UInt8) : cutB m l = if l.length > 16384 then ⟨0, [], 0, 3⟩ else if l.length = 0 then ⟨0, [], 0, 0⟩ else if l.getD 0 0 ≠ m ∨ l.length ≥ 6 ∧ be32 l > 4096 then ⟨0, [], 0, 8⟩
  else if l.length < 6 ∨ l.length < 6 + be32 l then ⟨0, [], 0, 0⟩ else ⟨l.getD 1 0, (l.take (6 + be32 l)).drop 6, 6 + be32 l, 0⟩ := rfl
theorem Cut_spec (m : UInt8) (v : AV) (l : List UInt8) (H : Heap) (hv : Bs H v l) : WC Try.prog 7 [.int .u8 m.toNat, v] H fun r H' => (∃ b, r = .tup [.int .u8 (cutB m l).op.toNat, b, .int .i64 (cutB m l).n, .int .i64 (cutB m l).err] ∧ Ob H.length H' b (cutB m l).body) ∧ Keep none H H' := by
  refine WC_of_K fun K hK => ?_
  have al := hv.alen tk22
  have sz0 := fun hl => size_spec v l hl H hv
  have blt := be32_lt l
  have hcB := cutB_eq m l
  generalize be32 l = n at *
  by_cases h1 : l.length > 16384
  · have hi : (l.length : Int) > 16384 := by omega
    rw [show cutB m l = ⟨0, [], 0, 3⟩ by rw [hcB, if_pos h1]] at hK
    clear h1 hcB sz0
    refine WC_of_body hT Try.func7 rfl (by simp [Try.f7]) (by simp [Try.f7]) (wx_sound hT _ ?_)
    simp only [Try.f7]
    repeat' (first | simp only [go_sem, Nat.reduceLT, Nat.reduceEqDiff, Nat.reduceAdd, Nat.reduceMul, Nat.reduceSub, Nat.reduceLeDiff, Int.reduceToNat, Int.reduceNeg, Int.reduceLT, Int.reduceLE, Int.reduceEq, reduceCtorEq, Int.natCast_zero, Int.natCast_one, Int.cast_ofNat_Int, Bool.not_not, false_eq_decide, true_eq_decide, hread0, hreadk, read_cons0, read_consk, astore_h0, astore_hk, hget0, hgetk, hset0, hsetk, hlen, hcat, Nat.add_assoc, Nat.add_zero, Nat.zero_add, List.length_append, and_true, true_and, AV.flat, *, -hK] | with_reducible refine IfB_dec (fun h => ?_) (fun h => ?_) | with_reducible refine Guard_dec (fun h => ?_) (fun h => ?_) | with_reducible refine Guard_ndec (fun h => ?_) (fun h => ?_) | with_reducible refine Guard_not (fun h => ?_) (fun h => ?_) | with_reducible refine IfB_ndec (fun h => ?_) (fun h => ?_) | with_reducible refine IfB_not (fun h => ?_) (fun h => ?_) | with_reducible refine Guard_split (fun h => ?_) (fun h => ?_) | with_reducible refine IfB_split (fun h => ?_) (fun h => ?_))
    exact hK _ _ ⟨⟨.nils, rfl, Ob.nils _ _⟩, Keep.refl _ _⟩
  have i1 : ¬ (l.length : Int) > 16384 := by omega
  by_cases h2 : l.length = 0
  · have hi : (l.length : Int) = 0 := by omega
    rw [show cutB m l = ⟨0, [], 0, 0⟩ by rw [hcB, if_neg h1, if_pos h2]] at hK
    clear h1 h2 hcB sz0
    refine WC_of_body hT Try.func7 rfl (by simp [Try.f7]) (by simp [Try.f7]) (wx_sound hT _ ?_)
    simp only [Try.f7]
    repeat' (first | simp only [go_sem, Nat.reduceLT, Nat.reduceEqDiff, Nat.reduceAdd, Nat.reduceMul, Nat.reduceSub, Nat.reduceLeDiff, Int.reduceToNat, Int.reduceNeg, Int.reduceLT, Int.reduceLE, Int.reduceEq, reduceCtorEq, Int.natCast_zero, Int.natCast_one, Int.cast_ofNat_Int, Bool.not_not, false_eq_decide, true_eq_decide, hread0, hreadk, read_cons0, read_consk, astore_h0, astore_hk, hget0, hgetk, hset0, hsetk, hlen, hcat, Nat.add_assoc, Nat.add_zero, Nat.zero_add, List.length_append, and_true, true_and, AV.flat, *, -hK] | with_reducible refine IfB_dec (fun h => ?_) (fun h => ?_) | with_reducible refine Guard_dec (fun h => ?_) (fun h => ?_) | with_reducible refine Guard_ndec (fun h => ?_) (fun h => ?_) | with_reducible refine Guard_not (fun h => ?_) (fun h => ?_) | with_reducible refine IfB_ndec (fun h => ?_) (fun h => ?_) | with_reducible refine IfB_not (fun h => ?_) (fun h => ?_) | with_reducible refine Guard_split (fun h => ?_) (fun h => ?_) | with_reducible refine IfB_split (fun h => ?_) (fun h => ?_))
    exact hK _ _ ⟨⟨.nils, rfl, Ob.nils _ _⟩, Keep.refl _ _⟩
  have i2 : ¬ (l.length : Int) = 0 := by omega
  obtain ⟨b0, o0, e1, e2, -⟩ := hv.at_ se22 (show 0 < l.length by omega) (k := .i64) (z := 0) rfl
  rw [getD_at] at e2
  by_cases h3 : l.getD 0 0 = m
  rotate_left
  · have i3 : ¬ ((l.getD 0 0).toNat : Int) = m.toNat := fun h => h3 (UInt8.toNat_inj.1 (by omega))
    rw [show cutB m l = ⟨0, [], 0, 8⟩ by rw [hcB, if_neg h1, if_neg h2, if_pos (.inl h3)]] at hK
    clear h1 h2 h3 hcB sz0
    generalize l.getD 0 0 = x0 at *
    refine WC_of_body hT Try.func7 rfl (by simp [Try.f7]) (by simp [Try.f7]) (wx_sound hT _ ?_)
    simp only [Try.f7]
    repeat' (first | simp only [go_sem, Nat.reduceLT, Nat.reduceEqDiff, Nat.reduceAdd, Nat.reduceMul, Nat.reduceSub, Nat.reduceLeDiff, Int.reduceToNat, Int.reduceNeg, Int.reduceLT, Int.reduceLE, Int.reduceEq, reduceCtorEq, Int.natCast_zero, Int.natCast_one, Int.cast_ofNat_Int, Bool.not_not, false_eq_decide, true_eq_decide, hread0, hreadk, read_cons0, read_consk, astore_h0, astore_hk, hget0, hgetk, hset0, hsetk, hlen, hcat, Nat.add_assoc, Nat.add_zero, Nat.zero_add, List.length_append, and_true, true_and, AV.flat, *, -hK] | with_reducible refine IfB_dec (fun h => ?_) (fun h => ?_) | with_reducible refine Guard_dec (fun h => ?_) (fun h => ?_) | with_reducible refine Guard_ndec (fun h => ?_) (fun h => ?_) | with_reducible refine Guard_not (fun h => ?_) (fun h => ?_) | with_reducible refine IfB_ndec (fun h => ?_) (fun h => ?_) | with_reducible refine IfB_not (fun h => ?_) (fun h => ?_) | with_reducible refine Guard_split (fun h => ?_) (fun h => ?_) | with_reducible refine IfB_split (fun h => ?_) (fun h => ?_))
    exact hK _ _ ⟨⟨.nils, rfl, Ob.nils _ _⟩, Keep.refl _ _⟩
  by_cases h6 : l.length < 6
  · rw [show cutB m l = ⟨0, [], 0, 0⟩ by rw [hcB, if_neg h1, if_neg h2, if_neg (fun h => h.elim (fun h => h h3) (fun h => by omega)), if_pos (.inl h6)]] at hK
    have i6 : (l.length : Int) < 6 := by omega
    have i7 : ¬ (l.length : Int) ≥ 6 := by omega
    clear h1 h2 hcB sz0
    generalize l.getD 0 0 = x0 at *
    subst h3
    refine WC_of_body hT Try.func7 rfl (by simp [Try.f7]) (by simp [Try.f7]) (wx_sound hT _ ?_)
    simp only [Try.f7]
    repeat' (first | simp only [go_sem, Nat.reduceLT, Nat.reduceEqDiff, Nat.reduceAdd, Nat.reduceMul, Nat.reduceSub, Nat.reduceLeDiff, Int.reduceToNat, Int.reduceNeg, Int.reduceLT, Int.reduceLE, Int.reduceEq, reduceCtorEq, Int.natCast_zero, Int.natCast_one, Int.cast_ofNat_Int, Bool.not_not, false_eq_decide, true_eq_decide, hread0, hreadk, read_cons0, read_consk, astore_h0, astore_hk, hget0, hgetk, hset0, hsetk, hlen, hcat, Nat.add_assoc, Nat.add_zero, Nat.zero_add, List.length_append, and_true, true_and, AV.flat, *, -hK, -h6] | with_reducible refine IfB_dec (fun h => ?_) (fun h => ?_) | with_reducible refine Guard_dec (fun h => ?_) (fun h => ?_) | with_reducible refine Guard_ndec (fun h => ?_) (fun h => ?_) | with_reducible refine Guard_not (fun h => ?_) (fun h => ?_) | with_reducible refine IfB_ndec (fun h => ?_) (fun h => ?_) | with_reducible refine IfB_not (fun h => ?_) (fun h => ?_) | with_reducible refine Guard_split (fun h => ?_) (fun h => ?_) | with_reducible refine IfB_split (fun h => ?_) (fun h => ?_))
    exact hK _ _ ⟨⟨.nils, rfl, Ob.nils _ _⟩, Keep.refl _ _⟩
  have i6 : ¬ (l.length : Int) < 6 := by omega
  have i7 : (l.length : Int) ≥ 6 := by omega
  have sz := sz0 (by omega)
  clear sz0
  by_cases h8 : n > 4096
  · rw [show cutB m l = ⟨0, [], 0, 8⟩ by rw [hcB, if_neg h1, if_neg h2, if_pos (.inr ⟨by omega, h8⟩)]] at hK
    have i8 : (n : Int) > 4096 := by omega
    clear h1 h2 h6 h8 hcB
    generalize l.getD 0 0 = x0 at *
    
    subst h3
    refine WC_of_body hT Try.func7 rfl (by simp [Try.f7]) (by simp [Try.f7]) (wx_sound hT _ ?_)
    simp only [Try.f7]
    repeat' (first | simp only [go_sem, Nat.reduceLT, Nat.reduceEqDiff, Nat.reduceAdd, Nat.reduceMul, Nat.reduceSub, Nat.reduceLeDiff, Int.reduceToNat, Int.reduceNeg, Int.reduceLT, Int.reduceLE, Int.reduceEq, reduceCtorEq, Int.natCast_zero, Int.natCast_one, Int.cast_ofNat_Int, Bool.not_not, false_eq_decide, true_eq_decide, hread0, hreadk, read_cons0, read_consk, astore_h0, astore_hk, hget0, hgetk, hset0, hsetk, hlen, hcat, Nat.add_assoc, Nat.add_zero, Nat.zero_add, List.length_append, and_true, true_and, AV.flat, *, -hK, -sz] | refine WC.call (sz) ?_ | with_reducible refine IfB_dec (fun h => ?_) (fun h => ?_) | with_reducible refine Guard_dec (fun h => ?_) (fun h => ?_) | with_reducible refine Guard_ndec (fun h => ?_) (fun h => ?_) | with_reducible refine Guard_not (fun h => ?_) (fun h => ?_) | with_reducible refine IfB_ndec (fun h => ?_) (fun h => ?_) | with_reducible refine IfB_not (fun h => ?_) (fun h => ?_) | with_reducible refine Guard_split (fun h => ?_) (fun h => ?_) | with_reducible refine IfB_split (fun h => ?_) (fun h => ?_))
    exact hK _ _ ⟨⟨.nils, rfl, Ob.nils _ _⟩, Keep.refl _ _⟩
  have i8 : ¬ (n : Int) > 4096 := by omega
  have w1 := i64_idb (6 + (n : Int)) (by omega) (by omega)
  by_cases h9 : l.length < 6 + n
  · rw [show cutB m l = ⟨0, [], 0, 0⟩ by rw [hcB, if_neg h1, if_neg h2, if_neg (fun h => h.elim (fun h => h h3) (fun h => h8 h.2)), if_pos (.inr h9)]] at hK
    have i9 : (l.length : Int) < 6 + (n : Int) := by omega
    clear h1 h2 h6 h8 h9 hcB
    generalize l.getD 0 0 = x0 at *
    
    subst h3
    refine WC_of_body hT Try.func7 rfl (by simp [Try.f7]) (by simp [Try.f7]) (wx_sound hT _ ?_)
    simp only [Try.f7]
    repeat' (first | simp only [go_sem, Nat.reduceLT, Nat.reduceEqDiff, Nat.reduceAdd, Nat.reduceMul, Nat.reduceSub, Nat.reduceLeDiff, Int.reduceToNat, Int.reduceNeg, Int.reduceLT, Int.reduceLE, Int.reduceEq, reduceCtorEq, Int.natCast_zero, Int.natCast_one, Int.cast_ofNat_Int, Bool.not_not, false_eq_decide, true_eq_decide, hread0, hreadk, read_cons0, read_consk, astore_h0, astore_hk, hget0, hgetk, hset0, hsetk, hlen, hcat, Nat.add_assoc, Nat.add_zero, Nat.zero_add, List.length_append, and_true, true_and, AV.flat, *, -hK, -sz] | refine WC.call (sz) ?_ | refine WC.call (sz) ?_ | with_reducible refine IfB_dec (fun h => ?_) (fun h => ?_) | with_reducible refine Guard_dec (fun h => ?_) (fun h => ?_) | with_reducible refine Guard_ndec (fun h => ?_) (fun h => ?_) | with_reducible refine Guard_not (fun h => ?_) (fun h => ?_) | with_reducible refine IfB_ndec (fun h => ?_) (fun h => ?_) | with_reducible refine IfB_not (fun h => ?_) (fun h => ?_) | with_reducible refine Guard_split (fun h => ?_) (fun h => ?_) | with_reducible refine IfB_split (fun h => ?_) (fun h => ?_))
    exact hK _ _ ⟨⟨.nils, rfl, Ob.nils _ _⟩, Keep.refl _ _⟩
  have i9 : ¬ (l.length : Int) < 6 + (n : Int) := by omega
  obtain ⟨b1, o1, e3, e4, -⟩ := hv.at_ se22 (show 1 < l.length by omega) (k := .i64) (z := 1) rfl
  rw [getD_at] at e4
  have hcut : cutB m l = ⟨l.getD 1 0, (l.take (6 + n)).drop 6, 6 + n, 0⟩ := by rw [hcB, if_neg h1, if_neg h2, if_neg (fun h => h.elim (fun h => h h3) (fun h => h8 h.2)), if_neg (by omega)]
  rw [hcut] at hK
  obtain ⟨vs, w2, hvs, -⟩ := hv.slice se22 (lo := some (.int .i64 6)) (hi := some (.int .i64 (6 + (n : Int)))) (i := 6) (u := 6 + n) rfl (by unfold abound; simp only []; rw [if_pos (by omega)]; congr 1) (by omega) (by omega)
  have hvl : ((l.take (6 + n)).drop 6).length ≤ 140737488355328 := by simp; omega
  generalize (l.take (6 + n)).drop 6 = bd at *
  clear h1 h2 h6 h8 h9 hcut hcB
  generalize l.getD 0 0 = x0 at *
  generalize hx1 : l.getD 1 0 = x1 at *
  
  subst h3
  refine WC_of_body hT Try.func7 rfl (by simp [Try.f7]) (by simp [Try.f7]) (wx_sound hT _ ?_)
  simp only [Try.f7]
  repeat' (first | simp only [go_sem, Nat.reduceLT, Nat.reduceEqDiff, Nat.reduceAdd, Nat.reduceMul, Nat.reduceSub, Nat.reduceLeDiff, Int.reduceToNat, Int.reduceNeg, Int.reduceLT, Int.reduceLE, Int.reduceEq, reduceCtorEq, Int.natCast_zero, Int.natCast_one, Int.cast_ofNat_Int, Bool.not_not, false_eq_decide, true_eq_decide, hread0, hreadk, read_cons0, read_consk, astore_h0, astore_hk, hget0, hgetk, hset0, hsetk, hlen, hcat, Nat.add_assoc, Nat.add_zero, Nat.zero_add, List.length_append, and_true, true_and, AV.flat, *, -hK, -sz, -hvl, -hvs] | refine WC.call (sz) ?_ | refine WC.call (sz) ?_ | refine WC.call (sz) ?_ | with_reducible refine IfB_dec (fun h => ?_) (fun h => ?_) | with_reducible refine Guard_dec (fun h => ?_) (fun h => ?_) | with_reducible refine Guard_ndec (fun h => ?_) (fun h => ?_) | with_reducible refine Guard_not (fun h => ?_) (fun h => ?_) | with_reducible refine IfB_ndec (fun h => ?_) (fun h => ?_) | with_reducible refine IfB_not (fun h => ?_) (fun h => ?_) | with_reducible refine Guard_split (fun h => ?_) (fun h => ?_) | with_reducible refine IfB_split (fun h => ?_) (fun h => ?_))
  refine WX_rows hT hmix [(0, none), (1, none), (2, none), (3, none), (4, none), (5, none), (7, none), (6, some [false, true, true, true, false, false, false]), (8, none), (9, none), (10, none), (11, none)] (by kernel_rfl) ?_
  repeat' (first | simp only [go_sem, Nat.reduceLT, Nat.reduceEqDiff, Nat.reduceAdd, Nat.reduceMul, Nat.reduceSub, Nat.reduceLeDiff, Int.reduceToNat, Int.reduceNeg, Int.reduceLT, Int.reduceLE, Int.reduceEq, reduceCtorEq, Int.natCast_zero, Int.natCast_one, Int.cast_ofNat_Int, Bool.not_not, false_eq_decide, true_eq_decide, hread0, hreadk, read_cons0, read_consk, astore_h0, astore_hk, hget0, hgetk, hset0, hsetk, hlen, hcat, Nat.add_assoc, Nat.add_zero, Nat.zero_add, List.length_append, and_true, true_and, AV.flat, *, -hK, -sz, -hvl, -hvs] | with_reducible refine IfB_dec (fun h => ?_) (fun h => ?_) | with_reducible refine Guard_dec (fun h => ?_) (fun h => ?_) | with_reducible refine Guard_ndec (fun h => ?_) (fun h => ?_) | with_reducible refine Guard_not (fun h => ?_) (fun h => ?_) | with_reducible refine IfB_ndec (fun h => ?_) (fun h => ?_) | with_reducible refine IfB_not (fun h => ?_) (fun h => ?_) | with_reducible refine Guard_split (fun h => ?_) (fun h => ?_) | with_reducible refine IfB_split (fun h => ?_) (fun h => ?_))
  refine (cloneb_spec vs bd hvl H hvs).mono ?_
  rintro r H2 ⟨o, k⟩
  obtain ⟨b9, o9, e8, e9, -⟩ := (hv.keep0 k).at_ se22 (show 1 < l.length by omega) (k := .i64) (z := 1) rfl
  rw [getD_at, hx1] at e9
  rw [e3] at e8
  cases e8
  repeat' (first | simp only [go_sem, Nat.reduceLT, Nat.reduceEqDiff, Nat.reduceAdd, Nat.reduceMul, Nat.reduceSub, Nat.reduceLeDiff, Int.reduceToNat, Int.reduceNeg, Int.reduceLT, Int.reduceLE, Int.reduceEq, reduceCtorEq, Int.natCast_zero, Int.natCast_one, Int.cast_ofNat_Int, Bool.not_not, false_eq_decide, true_eq_decide, hread0, hreadk, read_cons0, read_consk, astore_h0, astore_hk, hget0, hgetk, hset0, hsetk, hlen, hcat, Nat.add_assoc, Nat.add_zero, Nat.zero_add, List.length_append, and_true, true_and, AV.flat, *, -hK, -sz, -hvl, -hvs, -o, -k, -hx1] | with_reducible refine IfB_dec (fun h => ?_) (fun h => ?_) | with_reducible refine Guard_dec (fun h => ?_) (fun h => ?_) | with_reducible refine Guard_ndec (fun h => ?_) (fun h => ?_) | with_reducible refine Guard_not (fun h => ?_) (fun h => ?_) | with_reducible refine IfB_ndec (fun h => ?_) (fun h => ?_) | with_reducible refine IfB_not (fun h => ?_) (fun h => ?_) | with_reducible refine Guard_split (fun h => ?_) (fun h => ?_) | with_reducible refine IfB_split (fun h => ?_) (fun h => ?_))
  exact hK _ _ ⟨⟨r, rfl, o⟩, k⟩
end Go.Proofs.YtchpmfpmnhopoaaRR
