import Derived.Test.YtakmlfbejbelaaaCodeM1
import Derived.Test.YtakmlfbejbelaaaPiYa
set_option linter.unusedSimpArgs false
set_option linter.unusedVariables false
set_option maxRecDepth 100000
set_option maxHeartbeats 4000000
namespace Go.Proofs.Ytakmlfbejbelaaa
open Go Go.Proofs Go.Proofs.PI
/-! ### who may be -/
theorem tenanted_spec (n : Int) (H : Heap) : WC Try.prog 36 [.int .i64 n] H fun r H' => r = .bool (decide (0 ≤ n ∧ n < 4)) ∧ H' = H := by
  refine WC_of_K fun K hK => ?_
  refine WC_of_body hT Try.func36 rfl (by simp [Try.f36]) (by simp [Try.f36]) (wx_sound hT _ ?_)
  simp only [Try.f36]
  simp only [go_sem, Nat.reduceLT, Nat.reduceEqDiff, Nat.reduceAdd, Nat.reduceMul, Nat.reduceSub, Nat.reduceLeDiff, Int.reduceToNat, Int.reduceNeg, Int.reduceLT, Int.reduceLE, Int.reduceEq, reduceCtorEq]
  refine Guard_split (fun h => ?_) (fun h => ?_)
  · simp only [go_sem, Nat.reduceLT, Nat.reduceEqDiff, Nat.reduceAdd, Nat.reduceMul, Nat.reduceSub, Nat.reduceLeDiff, Int.reduceToNat, Int.reduceNeg, Int.reduceLT, Int.reduceLE, Int.reduceEq, reduceCtorEq, h]
    refine hK _ _ ⟨?_, rfl⟩
    simp at h; simp [h]
  · simp only [go_sem, Nat.reduceLT, Nat.reduceEqDiff, Nat.reduceAdd, Nat.reduceMul, Nat.reduceSub, Nat.reduceLeDiff, Int.reduceToNat, Int.reduceNeg, Int.reduceLT, Int.reduceLE, Int.reduceEq, reduceCtorEq, h]
    refine hK _ _ ⟨?_, rfl⟩
    simp at h; simp; omega
theorem refTenant_spec (n : Int) (H : Heap) : WC Try.prog 38 [.int .i64 n] H fun r H' => r = .bool (decide (0 ≤ n ∧ n < 4)) ∧ H' = H := by
  refine WC_of_K fun K hK => ?_
  refine WC_of_body hT Try.func38 rfl (by simp [Try.f38]) (by simp [Try.f38]) (wx_sound hT _ ?_)
  simp only [Try.f38]
  simp only [go_sem, Nat.reduceLT, Nat.reduceEqDiff, Nat.reduceAdd, Nat.reduceMul, Nat.reduceSub, Nat.reduceLeDiff, Int.reduceToNat, Int.reduceNeg, Int.reduceLT, Int.reduceLE, Int.reduceEq, reduceCtorEq]
  refine Guard_split (fun h => ?_) (fun h => ?_)
  · simp only [go_sem, Nat.reduceLT, Nat.reduceEqDiff, Nat.reduceAdd, Nat.reduceMul, Nat.reduceSub, Nat.reduceLeDiff, Int.reduceToNat, Int.reduceNeg, Int.reduceLT, Int.reduceLE, Int.reduceEq, reduceCtorEq, h]
    refine hK _ _ ⟨?_, rfl⟩
    simp at h; simp [h]
  · simp only [go_sem, Nat.reduceLT, Nat.reduceEqDiff, Nat.reduceAdd, Nat.reduceMul, Nat.reduceSub, Nat.reduceLeDiff, Int.reduceToNat, Int.reduceNeg, Int.reduceLT, Int.reduceLE, Int.reduceEq, reduceCtorEq, h]
    refine hK _ _ ⟨?_, rfl⟩
    simp at h; simp; omega
def keyB (s : List UInt8) : Bool := decide (1 ≤ s.length ∧ s.length ≤ 32)
theorem keyed_spec (s : List UInt8) (H : Heap) : WC Try.prog 37 [.str s] H fun r H' => r = .bool (keyB s) ∧ H' = H := by
  refine WC_of_K fun K hK => ?_
  refine WC_of_body hT Try.func37 rfl (by simp [Try.f37]) (by simp [Try.f37]) (wx_sound hT _ ?_)
  simp only [Try.f37]
  simp only [go_sem, Nat.reduceLT, Nat.reduceEqDiff, Nat.reduceAdd, Nat.reduceMul, Nat.reduceSub, Nat.reduceLeDiff, Int.reduceToNat, Int.reduceNeg, Int.reduceLT, Int.reduceLE, Int.reduceEq, reduceCtorEq]
  refine Guard_split (fun h => ?_) (fun h => ?_)
  · simp only [go_sem, Nat.reduceLT, Nat.reduceEqDiff, Nat.reduceAdd, Nat.reduceMul, Nat.reduceSub, Nat.reduceLeDiff, Int.reduceToNat, Int.reduceNeg, Int.reduceLT, Int.reduceLE, Int.reduceEq, reduceCtorEq, h]
    refine hK _ _ ⟨?_, rfl⟩
    simp at h; have := List.length_pos_iff.2 h
    refine congrArg AV.bool ?_; rw [Bool.eq_iff_iff]; simp [keyB]; omega
  · simp only [go_sem, Nat.reduceLT, Nat.reduceEqDiff, Nat.reduceAdd, Nat.reduceMul, Nat.reduceSub, Nat.reduceLeDiff, Int.reduceToNat, Int.reduceNeg, Int.reduceLT, Int.reduceLE, Int.reduceEq, reduceCtorEq, h]
    refine hK _ _ ⟨?_, rfl⟩
    simp at h; subst h; simp [keyB]
theorem refKey_spec (s : List UInt8) (H : Heap) : WC Try.prog 39 [.str s] H fun r H' => r = .bool (keyB s) ∧ H' = H := by
  refine WC_of_K fun K hK => ?_
  refine WC_of_body hT Try.func39 rfl (by simp [Try.f39]) (by simp [Try.f39]) (wx_sound hT _ ?_)
  simp only [Try.f39]
  simp only [go_sem, Nat.reduceLT, Nat.reduceEqDiff, Nat.reduceAdd, Nat.reduceMul, Nat.reduceSub, Nat.reduceLeDiff, Int.reduceToNat, Int.reduceNeg, Int.reduceLT, Int.reduceLE, Int.reduceEq, reduceCtorEq]
  refine Guard_split (fun h => ?_) (fun h => ?_)
  · simp only [go_sem, Nat.reduceLT, Nat.reduceEqDiff, Nat.reduceAdd, Nat.reduceMul, Nat.reduceSub, Nat.reduceLeDiff, Int.reduceToNat, Int.reduceNeg, Int.reduceLT, Int.reduceLE, Int.reduceEq, reduceCtorEq, h]
    refine hK _ _ ⟨?_, rfl⟩
    simp at h
    refine congrArg AV.bool ?_; rw [Bool.eq_iff_iff]; simp [keyB]; omega
  · simp only [go_sem, Nat.reduceLT, Nat.reduceEqDiff, Nat.reduceAdd, Nat.reduceMul, Nat.reduceSub, Nat.reduceLeDiff, Int.reduceToNat, Int.reduceNeg, Int.reduceLT, Int.reduceLE, Int.reduceEq, reduceCtorEq, h]
    refine hK _ _ ⟨?_, rfl⟩
    simp at h
    refine congrArg AV.bool ?_; rw [Bool.eq_iff_iff]; simp [keyB]; omega

/-! ### the hash -/
def hstep (h : Int) (b : UInt8) : Int := IntKind.u64.wrap (IntKind.u64.wrap (BitVec.ofInt IntKind.u64.bits h ^^^ BitVec.ofInt IntKind.u64.bits (IntKind.u64.wrap b.toNat)).toNat * 1099511628211)
def hash (s : List UInt8) : Int := s.foldl hstep 14695981039346656037
theorem hash_snoc (s : List UInt8) (i : Nat) (h : i < s.length) : hash (s.take (i + 1)) = hstep (hash (s.take i)) s[i] := by
  rw [hash, List.take_succ_eq_append_getElem h, List.foldl_append]; rfl
theorem hash_spec (s : List UInt8) (hs : s.length ≤ 140737488355328) (H : Heap) : WC Try.prog 14 [.str s] H fun r H' => r = .int .u64 (hash s) ∧ Keep none H H' := by
  refine WC_of_K fun K hK => ?_
  refine WC_of_body hT Try.func14 rfl (by simp [Try.f14]) (by simp [Try.f14]) (wx_sound hT _ ?_)
  simp only [Try.f14]
  simp only [go_sem, Nat.reduceLT, Nat.reduceEqDiff, Nat.reduceAdd, Nat.reduceMul, Nat.reduceSub, Nat.reduceLeDiff, Int.reduceToNat, Int.reduceNeg, Int.reduceLT, Int.reduceLE, Int.reduceEq, reduceCtorEq]
  rw [if_pos hs]
  simp only [go_sem, Nat.reduceLT, Nat.reduceEqDiff, Nat.reduceAdd, Nat.reduceMul, Nat.reduceSub, Nat.reduceLeDiff, Int.reduceToNat, Int.reduceNeg, Int.reduceLT, Int.reduceLE, Int.reduceEq, reduceCtorEq]
  refine WX_loop (fun m fr' H' => ∃ i : Nat, m = s.length - i ∧ i ≤ s.length ∧ fr'.get 7 = .sl H.length 0 s.length none ∧ fr'.get 8 = .int .i64 s.length ∧ fr'.get 9 = .int .i64 i ∧ fr'.get 3 = .int .u64 (hash (s.take i)) ∧ H' = H ++ [⟨s.map fun b => .int .u8 b.toNat, 1, .opn⟩]) s.length ⟨0, rfl, Nat.zero_le _, ?_, ?_, ?_, ?_, rfl⟩ ?_
  · simp only [go_sem, Nat.reduceLT, Nat.reduceEqDiff, Nat.reduceAdd, Nat.reduceMul, Nat.reduceSub, Nat.reduceLeDiff, Int.reduceToNat, Int.reduceNeg, Int.reduceLT, Int.reduceLE, Int.reduceEq, reduceCtorEq]
  · simp only [go_sem, Nat.reduceLT, Nat.reduceEqDiff, Nat.reduceAdd, Nat.reduceMul, Nat.reduceSub, Nat.reduceLeDiff, Int.reduceToNat, Int.reduceNeg, Int.reduceLT, Int.reduceLE, Int.reduceEq, reduceCtorEq]
  · simp only [go_sem, Nat.reduceLT, Nat.reduceEqDiff, Nat.reduceAdd, Nat.reduceMul, Nat.reduceSub, Nat.reduceLeDiff, Int.reduceToNat, Int.reduceNeg, Int.reduceLT, Int.reduceLE, Int.reduceEq, reduceCtorEq]
    rfl
  · simp only [go_sem, Nat.reduceLT, Nat.reduceEqDiff, Nat.reduceAdd, Nat.reduceMul, Nat.reduceSub, Nat.reduceLeDiff, Int.reduceToNat, Int.reduceNeg, Int.reduceLT, Int.reduceLE, Int.reduceEq, reduceCtorEq]
    simp [hash]
  · rintro m fr' H' ⟨i, rfl, hi, h7, h8, h9, h3, rfl⟩
    refine wx_sound hT _ ?_
    simp only [go_sem, Nat.reduceLT, Nat.reduceEqDiff, Nat.reduceAdd, Nat.reduceMul, Nat.reduceSub, Nat.reduceLeDiff, Int.reduceToNat, Int.reduceNeg, Int.reduceLT, Int.reduceLE, Int.reduceEq, reduceCtorEq, h7, h8, h9, h3]
    refine IfB_dec (fun hlt => ?_) (fun hge => ?_)
    · have hlt' : i < s.length := by omega
      simp only [go_sem, Nat.reduceLT, Nat.reduceEqDiff, Nat.reduceAdd, Nat.reduceMul, Nat.reduceSub, Nat.reduceLeDiff, Int.reduceToNat, Int.reduceNeg, Int.reduceLT, Int.reduceLE, Int.reduceEq, reduceCtorEq, h7, h8, h9, h3, if_pos (show (0 : Int) ≤ i ∧ (i : Int) < s.length from ⟨by omega, hlt⟩), Int.toNat_natCast, Nat.mul_one, Nat.zero_add]
      rw [read_at (B := ⟨s.map fun b => .int .u8 b.toNat, 1, .opn⟩) (a := .int .u8 s[i].toNat) (by simp) rfl (by simp [hlt'])]
      simp only [go_sem, Nat.reduceLT, Nat.reduceEqDiff, Nat.reduceAdd, Nat.reduceMul, Nat.reduceSub, Nat.reduceLeDiff, Int.reduceToNat, Int.reduceNeg, Int.reduceLT, Int.reduceLE, Int.reduceEq, reduceCtorEq, h7, h8, h9, h3, i64_id (i + 1 : Int) (by omega) (by omega)]
      refine ⟨s.length - (i + 1), by omega, i + 1, rfl, by omega, ?_, ?_, ?_, ?_, rfl⟩
      · simp only [go_sem, Nat.reduceLT, Nat.reduceEqDiff, Nat.reduceAdd, Nat.reduceMul, Nat.reduceSub, Nat.reduceLeDiff, Int.reduceToNat, Int.reduceNeg, Int.reduceLT, Int.reduceLE, Int.reduceEq, reduceCtorEq, h7]
      · simp only [go_sem, Nat.reduceLT, Nat.reduceEqDiff, Nat.reduceAdd, Nat.reduceMul, Nat.reduceSub, Nat.reduceLeDiff, Int.reduceToNat, Int.reduceNeg, Int.reduceLT, Int.reduceLE, Int.reduceEq, reduceCtorEq, h8]
      · simp only [go_sem, Nat.reduceLT, Nat.reduceEqDiff, Nat.reduceAdd, Nat.reduceMul, Nat.reduceSub, Nat.reduceLeDiff, Int.reduceToNat, Int.reduceNeg, Int.reduceLT, Int.reduceLE, Int.reduceEq, reduceCtorEq]
        rfl
      · simp only [go_sem, Nat.reduceLT, Nat.reduceEqDiff, Nat.reduceAdd, Nat.reduceMul, Nat.reduceSub, Nat.reduceLeDiff, Int.reduceToNat, Int.reduceNeg, Int.reduceLT, Int.reduceLE, Int.reduceEq, reduceCtorEq]
        rw [hash_snoc s i hlt']; rfl
    · have : i = s.length := by omega
      subst this
      simp only [go_sem, Nat.reduceLT, Nat.reduceEqDiff, Nat.reduceAdd, Nat.reduceMul, Nat.reduceSub, Nat.reduceLeDiff, Int.reduceToNat, Int.reduceNeg, Int.reduceLT, Int.reduceLE, Int.reduceEq, reduceCtorEq, h3]
      refine hK _ _ ⟨?_, Keep.snoc _ _ _⟩
      rw [List.take_length]
theorem refHash_spec (s : List UInt8) (hs : s.length ≤ 140737488355328) (H : Heap) : WC Try.prog 15 [.str s] H fun r H' => r = .int .u64 (hash s) ∧ Keep none H H' := by
  refine WC_of_K fun K hK => ?_
  refine WC_of_body hT Try.func15 rfl (by simp [Try.f15]) (by simp [Try.f15]) (wx_sound hT _ ?_)
  simp only [Try.f15]
  simp only [go_sem, Nat.reduceLT, Nat.reduceEqDiff, Nat.reduceAdd, Nat.reduceMul, Nat.reduceSub, Nat.reduceLeDiff, Int.reduceToNat, Int.reduceNeg, Int.reduceLT, Int.reduceLE, Int.reduceEq, reduceCtorEq]
  refine WX_loop (fun m fr' H' => ∃ i : Nat, m = s.length - i ∧ i ≤ s.length ∧ fr'.get 0 = .str s ∧ fr'.get 4 = .int .i64 i ∧ fr'.get 3 = .int .u64 (hash (s.take i)) ∧ H' = H) s.length ⟨0, rfl, Nat.zero_le _, ?_, ?_, ?_, rfl⟩ ?_
  · simp only [go_sem, Nat.reduceLT, Nat.reduceEqDiff, Nat.reduceAdd, Nat.reduceMul, Nat.reduceSub, Nat.reduceLeDiff, Int.reduceToNat, Int.reduceNeg, Int.reduceLT, Int.reduceLE, Int.reduceEq, reduceCtorEq]
  · simp only [go_sem, Nat.reduceLT, Nat.reduceEqDiff, Nat.reduceAdd, Nat.reduceMul, Nat.reduceSub, Nat.reduceLeDiff, Int.reduceToNat, Int.reduceNeg, Int.reduceLT, Int.reduceLE, Int.reduceEq, reduceCtorEq]
    rfl
  · simp only [go_sem, Nat.reduceLT, Nat.reduceEqDiff, Nat.reduceAdd, Nat.reduceMul, Nat.reduceSub, Nat.reduceLeDiff, Int.reduceToNat, Int.reduceNeg, Int.reduceLT, Int.reduceLE, Int.reduceEq, reduceCtorEq]
    simp [hash]
  · rintro m fr' H' ⟨i, rfl, hi, h0, h4, h3, rfl⟩
    refine wx_sound hT _ ?_
    simp only [go_sem, Nat.reduceLT, Nat.reduceEqDiff, Nat.reduceAdd, Nat.reduceMul, Nat.reduceSub, Nat.reduceLeDiff, Int.reduceToNat, Int.reduceNeg, Int.reduceLT, Int.reduceLE, Int.reduceEq, reduceCtorEq, h0, h4, h3]
    refine IfB_dec (fun hlt => ?_) (fun hge => ?_)
    · have hlt' : i < s.length := by omega
      simp only [go_sem, Nat.reduceLT, Nat.reduceEqDiff, Nat.reduceAdd, Nat.reduceMul, Nat.reduceSub, Nat.reduceLeDiff, Int.reduceToNat, Int.reduceNeg, Int.reduceLT, Int.reduceLE, Int.reduceEq, reduceCtorEq, h0, h4, h3, if_pos (show (0 : Int) ≤ i by omega), Int.toNat_natCast, List.getElem?_eq_getElem hlt', i64_id (i + 1 : Int) (by omega) (by omega)]
      refine ⟨s.length - (i + 1), by omega, i + 1, rfl, by omega, ?_, ?_, ?_, rfl⟩
      · simp only [go_sem, Nat.reduceLT, Nat.reduceEqDiff, Nat.reduceAdd, Nat.reduceMul, Nat.reduceSub, Nat.reduceLeDiff, Int.reduceToNat, Int.reduceNeg, Int.reduceLT, Int.reduceLE, Int.reduceEq, reduceCtorEq, h0]
      · simp only [go_sem, Nat.reduceLT, Nat.reduceEqDiff, Nat.reduceAdd, Nat.reduceMul, Nat.reduceSub, Nat.reduceLeDiff, Int.reduceToNat, Int.reduceNeg, Int.reduceLT, Int.reduceLE, Int.reduceEq, reduceCtorEq]
        rfl
      · simp only [go_sem, Nat.reduceLT, Nat.reduceEqDiff, Nat.reduceAdd, Nat.reduceMul, Nat.reduceSub, Nat.reduceLeDiff, Int.reduceToNat, Int.reduceNeg, Int.reduceLT, Int.reduceLE, Int.reduceEq, reduceCtorEq]
        rw [hash_snoc s i hlt']; rfl
    · have : i = s.length := by omega
      subst this
      simp only [go_sem, Nat.reduceLT, Nat.reduceEqDiff, Nat.reduceAdd, Nat.reduceMul, Nat.reduceSub, Nat.reduceLeDiff, Int.reduceToNat, Int.reduceNeg, Int.reduceLT, Int.reduceLE, Int.reduceEq, reduceCtorEq, h3]
      refine hK _ _ ⟨?_, Keep.refl _ _⟩
      rw [List.take_length]

/-! ### shards -/
/-- The byte that a tenant is. -/
def tbyte (n : Int) : UInt8 := UInt8.ofNat (IntKind.u8.wrap n).toNat
def shardL (t : Int) (k : List UInt8) (n : Int) : Int × Int :=
  if ¬ (0 ≤ t ∧ t < 4) then (0, 2) else if keyB k = false then (0, 3) else if n < 1 ∨ n > 4 then (0, 2) else
    (IntKind.i64.wrap ((hash (tbyte t :: k)).tmod (IntKind.u64.wrap n)), 0)
theorem shard_spec (t : Int) (k : List UInt8) (n : Int) (hk : k.length ≤ 100000) (H : Heap) :
    WC Try.prog 12 [.int .i64 t, .str k, .int .i64 n] H fun r H' => r = .tup [.int .i64 (shardL t k n).1, .int .i64 (shardL t k n).2] ∧ Keep none H H' := by
  refine WC_of_K fun K hK => ?_
  refine WC_of_body hT Try.func12 rfl (by simp [Try.f12]) (by simp [Try.f12]) (wx_sound hT _ ?_)
  simp only [Try.f12]
  simp only [go_sem, Nat.reduceLT, Nat.reduceEqDiff, Nat.reduceAdd, Nat.reduceMul, Nat.reduceSub, Nat.reduceLeDiff, Int.reduceToNat, Int.reduceNeg, Int.reduceLT, Int.reduceLE, Int.reduceEq, reduceCtorEq]
  refine (tenanted_spec _ _).mono ?_
  rintro r H' ⟨rfl, rfl⟩
  simp only [go_sem, Nat.reduceLT, Nat.reduceEqDiff, Nat.reduceAdd, Nat.reduceMul, Nat.reduceSub, Nat.reduceLeDiff, Int.reduceToNat, Int.reduceNeg, Int.reduceLT, Int.reduceLE, Int.reduceEq, reduceCtorEq]
  refine IfB_split (fun h => ?_) (fun h => ?_)
  · simp only [go_sem, Nat.reduceLT, Nat.reduceEqDiff, Nat.reduceAdd, Nat.reduceMul, Nat.reduceSub, Nat.reduceLeDiff, Int.reduceToNat, Int.reduceNeg, Int.reduceLT, Int.reduceLE, Int.reduceEq, reduceCtorEq]
    refine hK _ _ ⟨?_, Keep.refl _ _⟩
    simp at h
    rw [shardL, if_pos (by omega)]
  · simp only [go_sem, Nat.reduceLT, Nat.reduceEqDiff, Nat.reduceAdd, Nat.reduceMul, Nat.reduceSub, Nat.reduceLeDiff, Int.reduceToNat, Int.reduceNeg, Int.reduceLT, Int.reduceLE, Int.reduceEq, reduceCtorEq]
    refine (keyed_spec _ _).mono ?_
    rintro r H' ⟨rfl, rfl⟩
    simp only [go_sem, Nat.reduceLT, Nat.reduceEqDiff, Nat.reduceAdd, Nat.reduceMul, Nat.reduceSub, Nat.reduceLeDiff, Int.reduceToNat, Int.reduceNeg, Int.reduceLT, Int.reduceLE, Int.reduceEq, reduceCtorEq]
    refine IfB_split (fun h2 => ?_) (fun h2 => ?_)
    · simp only [go_sem, Nat.reduceLT, Nat.reduceEqDiff, Nat.reduceAdd, Nat.reduceMul, Nat.reduceSub, Nat.reduceLeDiff, Int.reduceToNat, Int.reduceNeg, Int.reduceLT, Int.reduceLE, Int.reduceEq, reduceCtorEq]
      refine hK _ _ ⟨?_, Keep.refl _ _⟩
      simp at h h2
      rw [shardL, if_neg (by omega), if_pos h2]
    · simp at h h2
      simp only [go_sem, Nat.reduceLT, Nat.reduceEqDiff, Nat.reduceAdd, Nat.reduceMul, Nat.reduceSub, Nat.reduceLeDiff, Int.reduceToNat, Int.reduceNeg, Int.reduceLT, Int.reduceLE, Int.reduceEq, reduceCtorEq]
      refine Guard_not (fun h3 => ?_) (fun h3 => ?_)
      · simp only [go_sem, Nat.reduceLT, Nat.reduceEqDiff, Nat.reduceAdd, Nat.reduceMul, Nat.reduceSub, Nat.reduceLeDiff, Int.reduceToNat, Int.reduceNeg, Int.reduceLT, Int.reduceLE, Int.reduceEq, reduceCtorEq, h3]
        simp at h3
        refine IfB_dec (fun h4 => ?_) (fun h4 => ?_)
        · simp only [go_sem, Nat.reduceLT, Nat.reduceEqDiff, Nat.reduceAdd, Nat.reduceMul, Nat.reduceSub, Nat.reduceLeDiff, Int.reduceToNat, Int.reduceNeg, Int.reduceLT, Int.reduceLE, Int.reduceEq, reduceCtorEq]
          refine hK _ _ ⟨?_, Keep.refl _ _⟩
          rw [shardL, if_neg (by omega), if_neg (by simp [h2]), if_pos (by omega)]
        · simp only [go_sem, Nat.reduceLT, Nat.reduceEqDiff, Nat.reduceAdd, Nat.reduceMul, Nat.reduceSub, Nat.reduceLeDiff, Int.reduceToNat, Int.reduceNeg, Int.reduceLT, Int.reduceLE, Int.reduceEq, reduceCtorEq]
          rw [if_pos (by omega)]
          simp only [go_sem, Nat.reduceLT, Nat.reduceEqDiff, Nat.reduceAdd, Nat.reduceMul, Nat.reduceSub, Nat.reduceLeDiff, Int.reduceToNat, Int.reduceNeg, Int.reduceLT, Int.reduceLE, Int.reduceEq, reduceCtorEq]
          refine (hash_spec _ (by simp; omega) _).mono ?_
          rintro r H' ⟨rfl, hk2⟩
          simp only [go_sem, Nat.reduceLT, Nat.reduceEqDiff, Nat.reduceAdd, Nat.reduceMul, Nat.reduceSub, Nat.reduceLeDiff, Int.reduceToNat, Int.reduceNeg, Int.reduceLT, Int.reduceLE, Int.reduceEq, reduceCtorEq]
          have hn : IntKind.u64.wrap n = n := by rw [IntKind.wrap_u64]; omega
          rw [hn]
          rw [if_pos (by omega)]
          simp only [go_sem, Nat.reduceLT, Nat.reduceEqDiff, Nat.reduceAdd, Nat.reduceMul, Nat.reduceSub, Nat.reduceLeDiff, Int.reduceToNat, Int.reduceNeg, Int.reduceLT, Int.reduceLE, Int.reduceEq, reduceCtorEq]
          refine hK _ _ ⟨?_, (Keep.snoc _ _ _).trans hk2⟩
          rw [shardL, if_neg (by omega), if_neg (by simp [h2]), if_neg (by omega), hn]; rfl
      · simp only [go_sem, Nat.reduceLT, Nat.reduceEqDiff, Nat.reduceAdd, Nat.reduceMul, Nat.reduceSub, Nat.reduceLeDiff, Int.reduceToNat, Int.reduceNeg, Int.reduceLT, Int.reduceLE, Int.reduceEq, reduceCtorEq, h3]
        simp at h3
        refine hK _ _ ⟨?_, Keep.refl _ _⟩
        rw [shardL, if_neg (by omega), if_neg (by simp [h2]), if_pos (by omega)]
theorem refShard_spec (t : Int) (k : List UInt8) (n : Int) (hk : k.length ≤ 100000) (H : Heap) :
    WC Try.prog 13 [.int .i64 t, .str k, .int .i64 n] H fun r H' => r = .tup [.int .i64 (shardL t k n).1, .int .i64 (shardL t k n).2] ∧ Keep none H H' := by
  refine WC_of_K fun K hK => ?_
  refine WC_of_body hT Try.func13 rfl (by simp [Try.f13]) (by simp [Try.f13]) (wx_sound hT _ ?_)
  simp only [Try.f13]
  simp only [go_sem, Nat.reduceLT, Nat.reduceEqDiff, Nat.reduceAdd, Nat.reduceMul, Nat.reduceSub, Nat.reduceLeDiff, Int.reduceToNat, Int.reduceNeg, Int.reduceLT, Int.reduceLE, Int.reduceEq, reduceCtorEq]
  refine (refTenant_spec _ _).mono ?_
  rintro r H' ⟨rfl, rfl⟩
  simp only [go_sem, Nat.reduceLT, Nat.reduceEqDiff, Nat.reduceAdd, Nat.reduceMul, Nat.reduceSub, Nat.reduceLeDiff, Int.reduceToNat, Int.reduceNeg, Int.reduceLT, Int.reduceLE, Int.reduceEq, reduceCtorEq]
  refine IfB_split (fun h => ?_) (fun h => ?_)
  · simp only [go_sem, Nat.reduceLT, Nat.reduceEqDiff, Nat.reduceAdd, Nat.reduceMul, Nat.reduceSub, Nat.reduceLeDiff, Int.reduceToNat, Int.reduceNeg, Int.reduceLT, Int.reduceLE, Int.reduceEq, reduceCtorEq]
    refine hK _ _ ⟨?_, Keep.refl _ _⟩
    simp at h
    rw [shardL, if_pos (by omega)]
  · simp only [go_sem, Nat.reduceLT, Nat.reduceEqDiff, Nat.reduceAdd, Nat.reduceMul, Nat.reduceSub, Nat.reduceLeDiff, Int.reduceToNat, Int.reduceNeg, Int.reduceLT, Int.reduceLE, Int.reduceEq, reduceCtorEq]
    refine (refKey_spec _ _).mono ?_
    rintro r H' ⟨rfl, rfl⟩
    simp only [go_sem, Nat.reduceLT, Nat.reduceEqDiff, Nat.reduceAdd, Nat.reduceMul, Nat.reduceSub, Nat.reduceLeDiff, Int.reduceToNat, Int.reduceNeg, Int.reduceLT, Int.reduceLE, Int.reduceEq, reduceCtorEq]
    refine IfB_split (fun h2 => ?_) (fun h2 => ?_)
    · simp only [go_sem, Nat.reduceLT, Nat.reduceEqDiff, Nat.reduceAdd, Nat.reduceMul, Nat.reduceSub, Nat.reduceLeDiff, Int.reduceToNat, Int.reduceNeg, Int.reduceLT, Int.reduceLE, Int.reduceEq, reduceCtorEq]
      refine hK _ _ ⟨?_, Keep.refl _ _⟩
      simp at h h2
      rw [shardL, if_neg (by omega), if_pos h2]
    · simp at h h2
      simp only [go_sem, Nat.reduceLT, Nat.reduceEqDiff, Nat.reduceAdd, Nat.reduceMul, Nat.reduceSub, Nat.reduceLeDiff, Int.reduceToNat, Int.reduceNeg, Int.reduceLT, Int.reduceLE, Int.reduceEq, reduceCtorEq]
      refine Guard_not (fun h3 => ?_) (fun h3 => ?_)
      · simp only [go_sem, Nat.reduceLT, Nat.reduceEqDiff, Nat.reduceAdd, Nat.reduceMul, Nat.reduceSub, Nat.reduceLeDiff, Int.reduceToNat, Int.reduceNeg, Int.reduceLT, Int.reduceLE, Int.reduceEq, reduceCtorEq, h3]
        simp at h3
        refine IfB_dec (fun h4 => ?_) (fun h4 => ?_)
        · simp only [go_sem, Nat.reduceLT, Nat.reduceEqDiff, Nat.reduceAdd, Nat.reduceMul, Nat.reduceSub, Nat.reduceLeDiff, Int.reduceToNat, Int.reduceNeg, Int.reduceLT, Int.reduceLE, Int.reduceEq, reduceCtorEq]
          refine hK _ _ ⟨?_, Keep.refl _ _⟩
          rw [shardL, if_neg (by omega), if_neg (by simp [h2]), if_pos (by omega)]
        · simp only [go_sem, Nat.reduceLT, Nat.reduceEqDiff, Nat.reduceAdd, Nat.reduceMul, Nat.reduceSub, Nat.reduceLeDiff, Int.reduceToNat, Int.reduceNeg, Int.reduceLT, Int.reduceLE, Int.reduceEq, reduceCtorEq]
          rw [if_pos (by omega)]
          simp only [go_sem, Nat.reduceLT, Nat.reduceEqDiff, Nat.reduceAdd, Nat.reduceMul, Nat.reduceSub, Nat.reduceLeDiff, Int.reduceToNat, Int.reduceNeg, Int.reduceLT, Int.reduceLE, Int.reduceEq, reduceCtorEq]
          refine (refHash_spec _ (by simp; omega) _).mono ?_
          rintro r H' ⟨rfl, hk2⟩
          simp only [go_sem, Nat.reduceLT, Nat.reduceEqDiff, Nat.reduceAdd, Nat.reduceMul, Nat.reduceSub, Nat.reduceLeDiff, Int.reduceToNat, Int.reduceNeg, Int.reduceLT, Int.reduceLE, Int.reduceEq, reduceCtorEq]
          have hn : IntKind.u64.wrap n = n := by rw [IntKind.wrap_u64]; omega
          rw [hn]
          rw [if_pos (by omega)]
          simp only [go_sem, Nat.reduceLT, Nat.reduceEqDiff, Nat.reduceAdd, Nat.reduceMul, Nat.reduceSub, Nat.reduceLeDiff, Int.reduceToNat, Int.reduceNeg, Int.reduceLT, Int.reduceLE, Int.reduceEq, reduceCtorEq]
          refine hK _ _ ⟨?_, (Keep.snoc _ _ _).trans hk2⟩
          rw [shardL, if_neg (by omega), if_neg (by simp [h2]), if_neg (by omega), hn]; rfl
      · simp only [go_sem, Nat.reduceLT, Nat.reduceEqDiff, Nat.reduceAdd, Nat.reduceMul, Nat.reduceSub, Nat.reduceLeDiff, Int.reduceToNat, Int.reduceNeg, Int.reduceLT, Int.reduceLE, Int.reduceEq, reduceCtorEq, h3]
        simp at h3
        refine hK _ _ ⟨?_, Keep.refl _ _⟩
        rw [shardL, if_neg (by omega), if_neg (by simp [h2]), if_pos (by omega)]
theorem hashP (s : List UInt8) (hs : s.length ≤ 140737488355328) (H : Heap) : WC Try.prog 14 [.str s] H fun r H' => r = .int .u64 (hash s) ∧ H' = H :=
  WC_froze (Q := fun r => r = _) ((hash_spec s hs H).mono fun r H' ⟨h1, h2⟩ => ⟨_, by rw [h1]; exact .int _ _, h2, rfl⟩)
theorem shardP (t : Int) (k : List UInt8) (n : Int) (hk : k.length ≤ 100000) (H : Heap) : WC Try.prog 12 [.int .i64 t, .str k, .int .i64 n] H fun r H' => r = .tup [.int .i64 (shardL t k n).1, .int .i64 (shardL t k n).2] ∧ H' = H :=
  WC_froze (Q := fun r => r = _) ((shard_spec t k n hk H).mono fun r H' ⟨h1, h2⟩ => ⟨_, by rw [h1]; exact Thaw.tup_row ⟨.int _ _, .int _ _, trivial⟩, h2, rfl⟩)
theorem refShardP (t : Int) (k : List UInt8) (n : Int) (hk : k.length ≤ 100000) (H : Heap) : WC Try.prog 13 [.int .i64 t, .str k, .int .i64 n] H fun r H' => r = .tup [.int .i64 (shardL t k n).1, .int .i64 (shardL t k n).2] ∧ H' = H :=
  WC_froze (Q := fun r => r = _) ((refShard_spec t k n hk H).mono fun r H' ⟨h1, h2⟩ => ⟨_, by rw [h1]; exact Thaw.tup_row ⟨.int _ _, .int _ _, trivial⟩, h2, rfl⟩)
structure Cmd where
  kind : Int
  ten : Int
  keys : List (List UInt8)
  val : List UInt8
  flags : Int
  for_ : Int
  uniq : Int
  by_ : Int
deriving DecidableEq
def Cmd.av (c : Cmd) : AV := .agg [.int .u8 c.kind, .int .i64 c.ten, Enc.str.lst c.keys, .str c.val, .int .u32 c.flags, .int .i64 c.for_, .int .u64 c.uniq, .int .u64 c.by_]
def Cmd.cs (c : Cmd) : List AV := [.int .u8 c.kind, .int .i64 c.ten, Enc.str.lst c.keys, .str c.val, .int .u32 c.flags, .int .i64 c.for_, .int .u64 c.uniq, .int .u64 c.by_]
def cmd0 : Cmd := ⟨0, 0, [], [], 0, 0, 0, 0⟩
theorem str_cells (x : List UInt8) : Enc.str.cells x = [.str x] := rfl
theorem int_cells (x : Int) : (Enc.int .i64).cells x = [.int .i64 x] := rfl
/-! ### commands as bytes -/
theorem u8_src {H : Heap} {t e : TypeId} {l : List UInt8} (hk : tk T t = .slice e) : asrc T H t (Enc.u8.lst l) 1 = some (l.length, byc l) := by
  have := src_enc (E := Enc.u8) (T := T) (H := H) (xs := l) hk
  rw [Enc.u8_row] at this; exact this
structure Cmd.Ok (c : Cmd) : Prop where
  kind : 0 ≤ c.kind ∧ c.kind < 256
  flags : 0 ≤ c.flags ∧ c.flags < 4294967296
  uniq : 0 ≤ c.uniq ∧ c.uniq < 18446744073709551616
  by_ : 0 ≤ c.by_ ∧ c.by_ < 18446744073709551616
def shapedB (c : Cmd) : Bool := c.keys.all keyB && decide (1 ≤ c.kind ∧ c.kind ≤ 11 ∧ 0 ≤ c.ten ∧ c.ten < 4 ∧ c.keys.length ≤ 8 ∧ c.val.length ≤ 512 ∧ 0 ≤ c.for_ ∧ c.for_ ≤ 1099511627776)
def cmdL (c : Cmd) : List UInt8 := [UInt8.ofNat c.kind.toNat] ++ numsL [c.ten, c.keys.length] ++ textsL c.keys ++ textsL [c.val] ++ numsL [c.flags, c.for_] ++ small c.uniq.toNat ++ small c.by_.toNat
def commandL (c : Cmd) : List UInt8 × Int := if shapedB c = true then (cmdL c, 0) else ([], 8)
theorem all_step {xs : List (List UInt8)} {i : Nat} (h : i < xs.length) : (xs.take (i + 1)).all keyB = ((xs.take i).all keyB && keyB xs[i]) := by
  rw [List.take_succ_eq_append_getElem h, List.all_append]; simp
theorem shaped_spec (c : Cmd) (hn : c.keys.length ≤ 140737488355328) (H : Heap) : WC Try.prog 42 [c.av] H fun r H' => r = .bool (shapedB c) ∧ H' = H := by
  refine WC_val fun K hK => ?_
  refine WC_of_body hT Try.func42 rfl (by simp [Try.f42]) (by simp [Try.f42]) (wx_sound hT _ ?_)
  simp only [Try.f42]
  repeat' (first | simp only [go_sem, Nat.reduceLT, Nat.reduceEqDiff, Nat.reduceAdd, Nat.reduceMul, Nat.reduceSub, Nat.reduceLeDiff, Int.reduceToNat, Int.reduceNeg, Int.reduceLT, Int.reduceLE, Int.reduceEq, reduceCtorEq, Int.natCast_zero, Int.natCast_one, Int.cast_ofNat_Int, Bool.not_not, false_eq_decide, true_eq_decide, hread0, hreadk, read_cons0, read_consk, astore_h0, astore_hk, hget0, hgetk, hset0, hsetk, hlen, hcat, Nat.add_assoc, Nat.add_zero, Nat.zero_add, List.length_append, and_true, true_and, AV.flat, Cmd.av, *, -hK] | with_reducible refine IfB_dec (fun h => ?_) (fun h => ?_) | with_reducible refine Guard_dec (fun h => ?_) (fun h => ?_) | with_reducible refine Guard_ndec (fun h => ?_) (fun h => ?_) | with_reducible refine Guard_not (fun h => ?_) (fun h => ?_) | with_reducible refine IfB_ndec (fun h => ?_) (fun h => ?_) | with_reducible refine IfB_not (fun h => ?_) (fun h => ?_) | with_reducible refine Guard_split (fun h => ?_) (fun h => ?_) | with_reducible refine IfB_split (fun h => ?_) (fun h => ?_))
  refine WX_loopS [1, 6, 7] (fun k fr' H' => ∃ i : Nat, k = c.keys.length - i ∧ i ≤ c.keys.length ∧ fr'.get 8 = .int .i64 i ∧ (c.keys.take i).all keyB = true ∧ H' = H ++ [⟨c.cs, 0, .full⟩]) c.keys.length ⟨0, rfl, by omega, by simp only [go_sem, Nat.reduceLT, Nat.reduceEqDiff, Nat.reduceAdd, Nat.reduceMul, Nat.reduceSub, Nat.reduceLeDiff, Int.reduceToNat, Int.reduceNeg, Int.reduceLT, Int.reduceLE, Int.reduceEq, reduceCtorEq]; rfl, by simp, rfl⟩ ?_
  rintro k fr' H' A R hA hs hg hR ⟨i, rfl, hi, f8, hall, rfl⟩
  unfold Cmd.cs at hR ⊢
  have s1 := hg 1 (by decide)
  have s6 := hg 6 (by decide)
  have s7 := hg 7 (by decide)
  simp only [Fr.get_put, Fr.get_init, List.getD_cons_zero, List.getD_cons_succ, Nat.reduceEqDiff, if_true, if_false] at s1 s6 s7
  refine wx_sound hT _ ?_
  repeat' (first | simp only [go_sem, Nat.reduceLT, Nat.reduceEqDiff, Nat.reduceAdd, Nat.reduceMul, Nat.reduceSub, Nat.reduceLeDiff, Int.reduceToNat, Int.reduceNeg, Int.reduceLT, Int.reduceLE, Int.reduceEq, reduceCtorEq, Int.natCast_zero, Int.natCast_one, Int.cast_ofNat_Int, Bool.not_not, false_eq_decide, true_eq_decide, hread0, hreadk, read_cons0, read_consk, astore_h0, astore_hk, hget0, hgetk, hset0, hsetk, hlen, hcat, Nat.add_assoc, Nat.add_zero, Nat.zero_add, List.length_append, and_true, true_and, AV.flat, *, -hK, -hall] | with_reducible refine IfB_dec (fun h => ?_) (fun h => ?_) | with_reducible refine Guard_dec (fun h => ?_) (fun h => ?_) | with_reducible refine Guard_ndec (fun h => ?_) (fun h => ?_) | with_reducible refine Guard_not (fun h => ?_) (fun h => ?_) | with_reducible refine IfB_ndec (fun h => ?_) (fun h => ?_) | with_reducible refine IfB_not (fun h => ?_) (fun h => ?_) | with_reducible refine Guard_split (fun h => ?_) (fun h => ?_) | with_reducible refine IfB_split (fun h => ?_) (fun h => ?_))
  case refine_1 =>
    have hlt : i < c.keys.length := by omega
    have e1 := at_enc (E := Enc.str) (T := T) (k := .i64) se42 hlt rfl
    have e3 := inc_id hlt hn
    repeat' (first | simp only [go_sem, Nat.reduceLT, Nat.reduceEqDiff, Nat.reduceAdd, Nat.reduceMul, Nat.reduceSub, Nat.reduceLeDiff, Int.reduceToNat, Int.reduceNeg, Int.reduceLT, Int.reduceLE, Int.reduceEq, reduceCtorEq, Int.natCast_zero, Int.natCast_one, Int.cast_ofNat_Int, Bool.not_not, false_eq_decide, true_eq_decide, hread0, hreadk, read_cons0, read_consk, astore_h0, astore_hk, hget0, hgetk, hset0, hsetk, hlen, hcat, Nat.add_assoc, Nat.add_zero, Nat.zero_add, List.length_append, and_true, true_and, AV.flat, str_cells, *, -hK, -hall] | refine WC.call (keyed_spec _ _) ?_ | with_reducible refine IfB_dec (fun h => ?_) (fun h => ?_) | with_reducible refine Guard_dec (fun h => ?_) (fun h => ?_) | with_reducible refine Guard_ndec (fun h => ?_) (fun h => ?_) | with_reducible refine Guard_not (fun h => ?_) (fun h => ?_) | with_reducible refine IfB_ndec (fun h => ?_) (fun h => ?_) | with_reducible refine IfB_not (fun h => ?_) (fun h => ?_) | with_reducible refine Guard_split (fun h => ?_) (fun h => ?_) | with_reducible refine IfB_split (fun h => ?_) (fun h => ?_))
    case refine_1 =>
      refine hK _ _ (Thaw.of_eq ?_ rfl) (Keep.app _ _ _)
      have : c.keys.all keyB = false := by rw [List.all_eq_false]; exact ⟨_, List.getElem_mem hlt, by simp [h]⟩
      simp [shapedB, this]
    case refine_2 =>
      exact hR _ _ (by (repeat (first | exact hs | refine hA _ _ _ (by decide) ?_))) (c.keys.length - (i + 1)) (by omega) ⟨i + 1, rfl, by omega, by simp only [go_sem, Nat.reduceLT, Nat.reduceEqDiff, Nat.reduceAdd, Nat.reduceMul, Nat.reduceSub, Nat.reduceLeDiff, Int.reduceToNat, Int.reduceNeg, Int.reduceLT, Int.reduceLE, Int.reduceEq, reduceCtorEq], by rw [all_step hlt, hall, h]; rfl, rfl⟩
  all_goals
    have hin : i = c.keys.length := by omega
    rw [hin, List.take_length] at hall
    clear hR hA hs hg A R
    repeat' (first | simp only [go_sem, Nat.reduceLT, Nat.reduceEqDiff, Nat.reduceAdd, Nat.reduceMul, Nat.reduceSub, Nat.reduceLeDiff, Int.reduceToNat, Int.reduceNeg, Int.reduceLT, Int.reduceLE, Int.reduceEq, reduceCtorEq, Int.natCast_zero, Int.natCast_one, Int.cast_ofNat_Int, Bool.not_not, false_eq_decide, true_eq_decide, hread0, hreadk, read_cons0, read_consk, astore_h0, astore_hk, hget0, hgetk, hset0, hsetk, hlen, hcat, Nat.add_assoc, Nat.add_zero, Nat.zero_add, List.length_append, and_true, true_and, AV.flat, *, -hK, -hall, -hin] | refine WC.call (tenanted_spec _ _) ?_ | refine WC.call (in_spec _ _ _) ?_ | with_reducible refine IfB_dec (fun h => ?_) (fun h => ?_) | with_reducible refine Guard_dec (fun h => ?_) (fun h => ?_) | with_reducible refine Guard_ndec (fun h => ?_) (fun h => ?_) | with_reducible refine Guard_not (fun h => ?_) (fun h => ?_) | with_reducible refine IfB_ndec (fun h => ?_) (fun h => ?_) | with_reducible refine IfB_not (fun h => ?_) (fun h => ?_) | with_reducible refine Guard_split (fun h => ?_) (fun h => ?_) | with_reducible refine IfB_split (fun h => ?_) (fun h => ?_))
    all_goals
      refine hK _ _ (Thaw.of_eq ?_ rfl) (Keep.app _ _ _)
      simp only [shapedB, hall, Bool.true_and]
      congr 1
      first
        | (rw [decide_eq_decide]; omega)
        | (symm; rw [decide_eq_false_iff_not]; omega)
theorem refShaped_spec (c : Cmd) (hn : c.keys.length ≤ 140737488355328) (H : Heap) : WC Try.prog 45 [c.av] H fun r H' => r = .bool (shapedB c) ∧ H' = H := by
  refine WC_val fun K hK => ?_
  by_cases hg0 : 1 ≤ c.kind ∧ c.kind ≤ 11 ∧ 0 ≤ c.ten ∧ c.ten < 4 ∧ c.keys.length ≤ 8 ∧ c.val.length ≤ 512 ∧ 0 ≤ c.for_ ∧ c.for_ ≤ 1099511627776
  rotate_left
  · have hsh : shapedB c = false := by simp [shapedB, decide_eq_false hg0]
    rw [hsh] at hK
    refine WC_of_body hT Try.func45 rfl (by simp [Try.f45]) (by simp [Try.f45]) (wx_sound hT _ ?_)
    simp only [Try.f45]
    repeat' (first | simp only [go_sem, Nat.reduceLT, Nat.reduceEqDiff, Nat.reduceAdd, Nat.reduceMul, Nat.reduceSub, Nat.reduceLeDiff, Int.reduceToNat, Int.reduceNeg, Int.reduceLT, Int.reduceLE, Int.reduceEq, reduceCtorEq, Int.natCast_zero, Int.natCast_one, Int.cast_ofNat_Int, Bool.not_not, false_eq_decide, true_eq_decide, hread0, hreadk, read_cons0, read_consk, astore_h0, astore_hk, hget0, hgetk, hset0, hsetk, hlen, hcat, Nat.add_assoc, Nat.add_zero, Nat.zero_add, List.length_append, and_true, true_and, AV.flat, Cmd.av, *, -hK, -hg0, -hsh] | refine WC.call (refTenant_spec _ _) ?_ | with_reducible refine IfB_dec (fun h => ?_) (fun h => ?_) | with_reducible refine Guard_dec (fun h => ?_) (fun h => ?_) | with_reducible refine Guard_ndec (fun h => ?_) (fun h => ?_) | with_reducible refine Guard_not (fun h => ?_) (fun h => ?_) | with_reducible refine IfB_ndec (fun h => ?_) (fun h => ?_) | with_reducible refine IfB_not (fun h => ?_) (fun h => ?_) | with_reducible refine Guard_split (fun h => ?_) (fun h => ?_) | with_reducible refine IfB_split (fun h => ?_) (fun h => ?_))
    all_goals first | exact hK _ _ (.bool _) (Keep.app _ _ _) | (exfalso; omega)
  obtain ⟨g1, g2, g3, g4, g5, g6, g7, g8⟩ := hg0
  have g5' : ¬ (8 : Int) < c.keys.length := by omega
  have g6' : ¬ (512 : Int) < c.val.length := by omega
  have g1' : ¬ c.kind < 1 := by omega
  have g2' : ¬ 11 < c.kind := by omega
  have g7' : ¬ c.for_ < 0 := by omega
  have g8' : ¬ 1099511627776 < c.for_ := by omega
  have gt : decide (0 ≤ c.ten ∧ c.ten < 4) = true := by simp; omega
  have ts := fun J => refTenant_spec c.ten J
  rw [gt] at ts
  refine WC_of_body hT Try.func45 rfl (by simp [Try.f45]) (by simp [Try.f45]) (wx_sound hT _ ?_)
  simp only [Try.f45]
  repeat' (first | simp only [go_sem, Nat.reduceLT, Nat.reduceEqDiff, Nat.reduceAdd, Nat.reduceMul, Nat.reduceSub, Nat.reduceLeDiff, Int.reduceToNat, Int.reduceNeg, Int.reduceLT, Int.reduceLE, Int.reduceEq, reduceCtorEq, Int.natCast_zero, Int.natCast_one, Int.cast_ofNat_Int, Bool.not_not, false_eq_decide, true_eq_decide, hread0, hreadk, read_cons0, read_consk, astore_h0, astore_hk, hget0, hgetk, hset0, hsetk, hlen, hcat, Nat.add_assoc, Nat.add_zero, Nat.zero_add, List.length_append, and_true, true_and, AV.flat, Cmd.av, *, -hK, -ts, -gt] | refine WC.call (ts _) ?_ | with_reducible refine IfB_dec (fun h => ?_) (fun h => ?_) | with_reducible refine Guard_dec (fun h => ?_) (fun h => ?_) | with_reducible refine Guard_ndec (fun h => ?_) (fun h => ?_) | with_reducible refine Guard_not (fun h => ?_) (fun h => ?_) | with_reducible refine IfB_ndec (fun h => ?_) (fun h => ?_) | with_reducible refine IfB_not (fun h => ?_) (fun h => ?_) | with_reducible refine Guard_split (fun h => ?_) (fun h => ?_) | with_reducible refine IfB_split (fun h => ?_) (fun h => ?_))
  refine WX_loopS [1] (fun k fr' H' => ∃ i : Nat, k = c.keys.length - i ∧ i ≤ c.keys.length ∧ fr'.get 3 = .int .i64 i ∧ (c.keys.take i).all keyB = true ∧ H' = H ++ [⟨c.cs, 0, .full⟩]) c.keys.length ⟨0, rfl, by omega, by simp only [go_sem, Nat.reduceLT, Nat.reduceEqDiff, Nat.reduceAdd, Nat.reduceMul, Nat.reduceSub, Nat.reduceLeDiff, Int.reduceToNat, Int.reduceNeg, Int.reduceLT, Int.reduceLE, Int.reduceEq, reduceCtorEq]; rfl, by simp, rfl⟩ ?_
  rintro k fr' H' A R hA hs hg hR ⟨i, rfl, hi, f3, hall, rfl⟩
  unfold Cmd.cs at hR ⊢
  have s1 := hg 1 (by decide)
  simp only [Fr.get_put, Fr.get_init, List.getD_cons_zero, List.getD_cons_succ, Nat.reduceEqDiff, if_true, if_false] at s1
  refine wx_sound hT _ ?_
  repeat' (first | simp only [go_sem, Nat.reduceLT, Nat.reduceEqDiff, Nat.reduceAdd, Nat.reduceMul, Nat.reduceSub, Nat.reduceLeDiff, Int.reduceToNat, Int.reduceNeg, Int.reduceLT, Int.reduceLE, Int.reduceEq, reduceCtorEq, Int.natCast_zero, Int.natCast_one, Int.cast_ofNat_Int, Bool.not_not, false_eq_decide, true_eq_decide, hread0, hreadk, read_cons0, read_consk, astore_h0, astore_hk, hget0, hgetk, hset0, hsetk, hlen, hcat, Nat.add_assoc, Nat.add_zero, Nat.zero_add, List.length_append, and_true, true_and, AV.flat, *, -hK, -hall, -ts, -gt] | with_reducible refine IfB_dec (fun h => ?_) (fun h => ?_) | with_reducible refine Guard_dec (fun h => ?_) (fun h => ?_) | with_reducible refine Guard_ndec (fun h => ?_) (fun h => ?_) | with_reducible refine Guard_not (fun h => ?_) (fun h => ?_) | with_reducible refine IfB_ndec (fun h => ?_) (fun h => ?_) | with_reducible refine IfB_not (fun h => ?_) (fun h => ?_) | with_reducible refine Guard_split (fun h => ?_) (fun h => ?_) | with_reducible refine IfB_split (fun h => ?_) (fun h => ?_))
  case refine_1 =>
    have hlt : i < c.keys.length := by omega
    have e1 := at_enc (E := Enc.str) (T := T) (k := .i64) se42 hlt rfl
    have e3 := inc_id hlt hn
    repeat' (first | simp only [go_sem, Nat.reduceLT, Nat.reduceEqDiff, Nat.reduceAdd, Nat.reduceMul, Nat.reduceSub, Nat.reduceLeDiff, Int.reduceToNat, Int.reduceNeg, Int.reduceLT, Int.reduceLE, Int.reduceEq, reduceCtorEq, Int.natCast_zero, Int.natCast_one, Int.cast_ofNat_Int, Bool.not_not, false_eq_decide, true_eq_decide, hread0, hreadk, read_cons0, read_consk, astore_h0, astore_hk, hget0, hgetk, hset0, hsetk, hlen, hcat, Nat.add_assoc, Nat.add_zero, Nat.zero_add, List.length_append, and_true, true_and, AV.flat, str_cells, *, -hK, -hall, -ts, -gt] | refine WC.call (refKey_spec _ _) ?_ | with_reducible refine IfB_dec (fun h => ?_) (fun h => ?_) | with_reducible refine Guard_dec (fun h => ?_) (fun h => ?_) | with_reducible refine Guard_ndec (fun h => ?_) (fun h => ?_) | with_reducible refine Guard_not (fun h => ?_) (fun h => ?_) | with_reducible refine IfB_ndec (fun h => ?_) (fun h => ?_) | with_reducible refine IfB_not (fun h => ?_) (fun h => ?_) | with_reducible refine Guard_split (fun h => ?_) (fun h => ?_) | with_reducible refine IfB_split (fun h => ?_) (fun h => ?_))
    case refine_1 =>
      refine hK _ _ (Thaw.of_eq ?_ rfl) (Keep.app _ _ _)
      have : c.keys.all keyB = false := by rw [List.all_eq_false]; exact ⟨_, List.getElem_mem hlt, by simp [h]⟩
      simp [shapedB, this]
    case refine_2 =>
      exact hR _ _ (by (repeat (first | exact hs | refine hA _ _ _ (by decide) ?_))) (c.keys.length - (i + 1)) (by omega) ⟨i + 1, rfl, by omega, by simp only [go_sem, Nat.reduceLT, Nat.reduceEqDiff, Nat.reduceAdd, Nat.reduceMul, Nat.reduceSub, Nat.reduceLeDiff, Int.reduceToNat, Int.reduceNeg, Int.reduceLT, Int.reduceLE, Int.reduceEq, reduceCtorEq], by rw [all_step hlt, hall, h]; rfl, rfl⟩
  case refine_2 =>
    have hin : i = c.keys.length := by omega
    rw [hin, List.take_length] at hall
    repeat' (first | simp only [go_sem, Nat.reduceLT, Nat.reduceEqDiff, Nat.reduceAdd, Nat.reduceMul, Nat.reduceSub, Nat.reduceLeDiff, Int.reduceToNat, Int.reduceNeg, Int.reduceLT, Int.reduceLE, Int.reduceEq, reduceCtorEq, Int.natCast_zero, Int.natCast_one, Int.cast_ofNat_Int, Bool.not_not, false_eq_decide, true_eq_decide, hread0, hreadk, read_cons0, read_consk, astore_h0, astore_hk, hget0, hgetk, hset0, hsetk, hlen, hcat, Nat.add_assoc, Nat.add_zero, Nat.zero_add, List.length_append, and_true, true_and, AV.flat, *, -hK, -hall, -hin, -ts, -gt] | with_reducible refine IfB_dec (fun h => ?_) (fun h => ?_) | with_reducible refine Guard_dec (fun h => ?_) (fun h => ?_) | with_reducible refine Guard_ndec (fun h => ?_) (fun h => ?_) | with_reducible refine Guard_not (fun h => ?_) (fun h => ?_) | with_reducible refine IfB_ndec (fun h => ?_) (fun h => ?_) | with_reducible refine IfB_not (fun h => ?_) (fun h => ?_) | with_reducible refine Guard_split (fun h => ?_) (fun h => ?_) | with_reducible refine IfB_split (fun h => ?_) (fun h => ?_))
    refine hK _ _ (Thaw.of_eq ?_ rfl) (Keep.app _ _ _)
    simp only [shapedB, hall, Bool.true_and]
    congr 1
    symm; rw [decide_eq_true_eq]; omega
open Go Go.Proofs Go.Proofs.PI
theorem textsL_keys {l : List (List UInt8)} (h : l.all keyB = true) (h8 : l.length ≤ 8) : (textsL l).length ≤ 42 * 8 := by
  have := textsL_len (l := l) (m := 32) (fun x hx => by have := List.all_eq_true.1 h x hx; simp only [keyB, decide_eq_true_eq] at this; exact this.2) (by omega)
  omega
theorem command_own (c : Cmd) (ho : c.Ok) (hn : c.keys.length ≤ 140737488355328) (H : Heap) : WC Try.prog 24 [c.av] H fun r H' => (∃ b, r = .tup [b, .int .i64 (commandL c).2] ∧ Ob H.length H' b (commandL c).1) ∧ Keep none H H' := by
  refine WC_of_K fun K hK => ?_
  have sp := fun J => shaped_spec c hn J
  unfold Cmd.av at sp
  by_cases hs : shapedB c = true
  rotate_left
  · have hcl : commandL c = ([], 8) := if_neg hs
    rw [hcl] at hK
    rw [(by simpa using hs : shapedB c = false)] at sp
    refine WC_of_body hT Try.func24 rfl (by simp [Try.f24]) (by simp [Try.f24]) (wx_sound hT _ ?_)
    simp only [Try.f24]
    repeat' (first | simp only [go_sem, Nat.reduceLT, Nat.reduceEqDiff, Nat.reduceAdd, Nat.reduceMul, Nat.reduceSub, Nat.reduceLeDiff, Int.reduceToNat, Int.reduceNeg, Int.reduceLT, Int.reduceLE, Int.reduceEq, reduceCtorEq, Int.natCast_zero, Int.natCast_one, Int.cast_ofNat_Int, Bool.not_not, false_eq_decide, true_eq_decide, hread0, hreadk, read_cons0, read_consk, astore_h0, astore_hk, hget0, hgetk, hset0, hsetk, hlen, hcat, Nat.add_assoc, Nat.add_zero, Nat.zero_add, List.length_append, and_true, true_and, AV.flat, Cmd.av, *, -hK, -sp, -hs, -hcl] | refine WC.call (sp _) ?_ | with_reducible refine IfB_dec (fun h => ?_) (fun h => ?_) | with_reducible refine Guard_dec (fun h => ?_) (fun h => ?_) | with_reducible refine Guard_ndec (fun h => ?_) (fun h => ?_) | with_reducible refine Guard_not (fun h => ?_) (fun h => ?_) | with_reducible refine IfB_ndec (fun h => ?_) (fun h => ?_) | with_reducible refine IfB_not (fun h => ?_) (fun h => ?_) | with_reducible refine Guard_split (fun h => ?_) (fun h => ?_) | with_reducible refine IfB_split (fun h => ?_) (fun h => ?_))
    exact hK _ _ ⟨⟨_, rfl, Ob.nils _ _⟩, Keep.app _ _ _⟩
  have hcl : commandL c = (cmdL c, 0) := if_pos hs
  rw [hcl] at hK
  rw [hs] at sp
  have hsh := hs
  simp only [shapedB, Bool.and_eq_true, decide_eq_true_eq] at hsh
  obtain ⟨s1, s2, s3, s4, s5, s6, s7, s8, s9⟩ := hsh
  have hkl : (numsL [c.ten, (c.keys.length : Int)]).length ≤ 20 := numsL_len _
  have htl := textsL_keys s1 s6
  have hvl : (textsL [c.val]).length ≤ 522 := by
    have := textsL_len (l := [c.val]) (m := 512) (by simpa using s7) (by omega)
    simpa using this
  have hfl : IntKind.i64.wrap c.flags = c.flags := i64_id _ (by have := ho.flags; omega) (by have := ho.flags; omega)
  have hn2 : (numsL [c.flags, c.for_]).length ≤ 20 := numsL_len _
  have hu10 := small_len10 (n := c.uniq.toNat) (by have := ho.uniq; omega)
  have hb10 := small_len10 (n := c.by_.toNat) (by have := ho.by_; omega)
  have su := fun J => smallP c.uniq ho.uniq.1 ho.uniq.2 J
  have sb := fun J => smallP c.by_ ho.by_.1 ho.by_.2 J
  have hkind : [AV.int .u8 c.kind] = byc [UInt8.ofNat c.kind.toNat] := by
    have := ho.kind; simp [byc]; omega
  refine WC_of_body hT Try.func24 rfl (by simp [Try.f24]) (by simp [Try.f24]) (wx_sound hT _ ?_)
  simp only [Try.f24]
  repeat' (first | simp only [go_sem, Nat.reduceLT, Nat.reduceEqDiff, Nat.reduceAdd, Nat.reduceMul, Nat.reduceSub, Nat.reduceLeDiff, Int.reduceToNat, Int.reduceNeg, Int.reduceLT, Int.reduceLE, Int.reduceEq, reduceCtorEq, Int.natCast_zero, Int.natCast_one, Int.cast_ofNat_Int, Bool.not_not, false_eq_decide, true_eq_decide, hread0, hreadk, read_cons0, read_consk, astore_h0, astore_hk, hget0, hgetk, hset0, hsetk, hlen, hcat, Nat.add_assoc, Nat.add_zero, Nat.zero_add, List.length_append, and_true, true_and, AV.flat, Cmd.av, *, -hK, -sp, -hs, -hcl, -hkind, -hfl] | refine WC.call (sp _) ?_ | with_reducible refine IfB_dec (fun h => ?_) (fun h => ?_) | with_reducible refine Guard_dec (fun h => ?_) (fun h => ?_) | with_reducible refine Guard_ndec (fun h => ?_) (fun h => ?_) | with_reducible refine Guard_not (fun h => ?_) (fun h => ?_) | with_reducible refine IfB_ndec (fun h => ?_) (fun h => ?_) | with_reducible refine IfB_not (fun h => ?_) (fun h => ?_) | with_reducible refine Guard_split (fun h => ?_) (fun h => ?_) | with_reducible refine IfB_split (fun h => ?_) (fun h => ?_))
  clear sp hs hcl
  refine WX_rows hT hmix [(0, none), (1, none), (2, none), (3, none), (4, none), (5, none), (6, none), (7, none), (8, none), (10, none), (11, none), (9, some [false, false, true, true, true, true, true, true, true, true, true]), (12, some [true, true, true, true, true, true, true, true, true, true, true, true]), (13, none)] (by kernel_rfl) ?_
  repeat' (first | simp only [go_sem, Nat.reduceLT, Nat.reduceEqDiff, Nat.reduceAdd, Nat.reduceMul, Nat.reduceSub, Nat.reduceLeDiff, Int.reduceToNat, Int.reduceNeg, Int.reduceLT, Int.reduceLE, Int.reduceEq, reduceCtorEq, Int.natCast_zero, Int.natCast_one, Int.cast_ofNat_Int, Bool.not_not, false_eq_decide, true_eq_decide, hread0, hreadk, read_cons0, read_consk, astore_h0, astore_hk, hget0, hgetk, hset0, hsetk, hlen, hcat, Nat.add_assoc, Nat.add_zero, Nat.zero_add, List.length_append, and_true, true_and, AV.flat, *, -hK, -hkind, -hfl] | with_reducible refine IfB_dec (fun h => ?_) (fun h => ?_) | with_reducible refine Guard_dec (fun h => ?_) (fun h => ?_) | with_reducible refine Guard_ndec (fun h => ?_) (fun h => ?_) | with_reducible refine Guard_not (fun h => ?_) (fun h => ?_) | with_reducible refine IfB_ndec (fun h => ?_) (fun h => ?_) | with_reducible refine IfB_not (fun h => ?_) (fun h => ?_) | with_reducible refine Guard_split (fun h => ?_) (fun h => ?_) | with_reducible refine IfB_split (fun h => ?_) (fun h => ?_))
  have o1 : Ob (H.length + 1) (H ++ [(⟨c.cs, 0, .full⟩ : Blk), ⟨[.int .u8 c.kind], 1, .full⟩, ⟨[.int .i64 c.ten, .int .i64 c.keys.length], 1, .full⟩]) (.sl (H.length + 1) 0 1 none) [UInt8.ofNat c.kind.toNat] :=
    Own.whole (Nat.le_refl _) (by rw [hgetk, ← hkind]; rfl) rfl rfl
  refine (nums_spec (m := H.length + 1) _ _ _ [c.ten, c.keys.length] _ o1 (by simp) (get_vs (by rw [hgetk]; rfl) rfl rfl) (by simp [AV.blk]) (by simp)).mono ?_
  intro r1 H2 g1
  have hb1 := g1.keep.get (b := H.length) (B := ⟨c.cs, 0, .full⟩) (by rw [hget0]; rfl) (by simp [AV.blk])
  have hi1 := g1.keep.get (b := H.length + 2) (B := ⟨[.int .i64 c.ten, .int .i64 c.keys.length], 1, .full⟩) (by rw [hgetk]; rfl) (by simp [AV.blk])
  have hl1 : H.length + 3 ≤ H2.length := by have := g1.keep.len; simp at this; omega
  unfold Cmd.cs at hb1
  repeat' (first | simp only [go_sem, Nat.reduceLT, Nat.reduceEqDiff, Nat.reduceAdd, Nat.reduceMul, Nat.reduceSub, Nat.reduceLeDiff, Int.reduceToNat, Int.reduceNeg, Int.reduceLT, Int.reduceLE, Int.reduceEq, reduceCtorEq, Int.natCast_zero, Int.natCast_one, Int.cast_ofNat_Int, Bool.not_not, false_eq_decide, true_eq_decide, hread0, hreadk, read_cons0, read_consk, astore_h0, astore_hk, hget0, hgetk, hset0, hsetk, hlen, hcat, Nat.add_assoc, Nat.add_zero, Nat.zero_add, List.length_append, and_true, true_and, AV.flat, hb1, get_app hb1, read_get hb1, read_app hb1, *, -hK, -hkind, -hfl] | with_reducible refine IfB_dec (fun h => ?_) (fun h => ?_) | with_reducible refine Guard_dec (fun h => ?_) (fun h => ?_) | with_reducible refine Guard_ndec (fun h => ?_) (fun h => ?_) | with_reducible refine Guard_not (fun h => ?_) (fun h => ?_) | with_reducible refine IfB_ndec (fun h => ?_) (fun h => ?_) | with_reducible refine IfB_not (fun h => ?_) (fun h => ?_) | with_reducible refine Guard_split (fun h => ?_) (fun h => ?_) | with_reducible refine IfB_split (fun h => ?_) (fun h => ?_))
  refine (texts_lst (m := H.length + 1) _ _ c.keys _ g1.own (by omega) (by simp at hkl ⊢; omega) hn).mono ?_
  intro r2 H3 g2
  have g12 := g1.trans g2
  have hl3 : H.length + 3 ≤ H3.length := by have := g2.keep.len; omega
  have hb2 := g12.keep.get (b := H.length) (B := ⟨c.cs, 0, .full⟩) (by rw [hget0]; rfl) (by simp [AV.blk])
  have hr2 : ∀ b, r2.blk = some b → H.length + 1 ≤ b ∧ b < H3.length := fun b hb => ⟨g12.own.ge hb, g12.own.lt hb⟩
  unfold Cmd.cs at hb2
  repeat' (first | simp only [go_sem, Nat.reduceLT, Nat.reduceEqDiff, Nat.reduceAdd, Nat.reduceMul, Nat.reduceSub, Nat.reduceLeDiff, Int.reduceToNat, Int.reduceNeg, Int.reduceLT, Int.reduceLE, Int.reduceEq, reduceCtorEq, Int.natCast_zero, Int.natCast_one, Int.cast_ofNat_Int, Bool.not_not, false_eq_decide, true_eq_decide, hread0, hreadk, read_cons0, read_consk, astore_h0, astore_hk, hget0, hgetk, hset0, hsetk, hlen, hcat, Nat.add_assoc, Nat.add_zero, Nat.zero_add, List.length_append, and_true, true_and, AV.flat, hb2, get_app hb2, read_get hb2, read_app hb2, *, -hK, -hkind, -hfl] | with_reducible refine IfB_dec (fun h => ?_) (fun h => ?_) | with_reducible refine Guard_dec (fun h => ?_) (fun h => ?_) | with_reducible refine Guard_ndec (fun h => ?_) (fun h => ?_) | with_reducible refine Guard_not (fun h => ?_) (fun h => ?_) | with_reducible refine IfB_ndec (fun h => ?_) (fun h => ?_) | with_reducible refine IfB_not (fun h => ?_) (fun h => ?_) | with_reducible refine Guard_split (fun h => ?_) (fun h => ?_) | with_reducible refine IfB_split (fun h => ?_) (fun h => ?_))
  refine WX_rows hT hmix [(0, none), (1, none), (2, none), (3, none), (5, none), (6, none), (7, none), (8, none), (9, none), (10, none), (4, some [false, false, false, false, false, false, true, true, true, true]), (11, some [true, true, true, true, true, true, true, true, true, true, true]), (12, none)] (by kernel_rfl) ?_
  repeat' (first | simp only [go_sem, Nat.reduceLT, Nat.reduceEqDiff, Nat.reduceAdd, Nat.reduceMul, Nat.reduceSub, Nat.reduceLeDiff, Int.reduceToNat, Int.reduceNeg, Int.reduceLT, Int.reduceLE, Int.reduceEq, reduceCtorEq, Int.natCast_zero, Int.natCast_one, Int.cast_ofNat_Int, Bool.not_not, false_eq_decide, true_eq_decide, hread0, hreadk, read_cons0, read_consk, astore_h0, astore_hk, hget0, hgetk, hset0, hsetk, hlen, hcat, Nat.add_assoc, Nat.add_zero, Nat.zero_add, List.length_append, and_true, true_and, AV.flat, hb2, get_app hb2, read_get hb2, read_app hb2, *, -hK, -hkind, -hfl] | with_reducible refine IfB_dec (fun h => ?_) (fun h => ?_) | with_reducible refine Guard_dec (fun h => ?_) (fun h => ?_) | with_reducible refine Guard_ndec (fun h => ?_) (fun h => ?_) | with_reducible refine Guard_not (fun h => ?_) (fun h => ?_) | with_reducible refine IfB_ndec (fun h => ?_) (fun h => ?_) | with_reducible refine IfB_not (fun h => ?_) (fun h => ?_) | with_reducible refine Guard_split (fun h => ?_) (fun h => ?_) | with_reducible refine IfB_split (fun h => ?_) (fun h => ?_))
  rw [hfl]
  have ov : Ob (H.length + 1) (H3 ++ [(⟨[.str c.val], 1, .full⟩ : Blk), ⟨[.int .i64 c.flags, .int .i64 c.for_], 1, .full⟩]) r2 _ := g12.own.keep0 (Keep.app _ _ _)
  refine (texts_spec (m := H.length + 1) _ _ _ [c.val] _ ov (by simp; omega) (get_vs (by rw [hget0]; rfl) rfl rfl) (fun b hb e => by have := hr2 b e; simp [AV.blk] at hb; omega) (by simp at hkl htl hvl ⊢; omega) (by simp)).mono ?_
  intro r3 H4 g3
  have hb3 := g3.keep.get (get_app hb2 _) (g12.own.ne (by omega))
  have hin : H4[H3.length + 1]? = some ⟨[.int .i64 c.flags, .int .i64 c.for_], 1, .full⟩ := g3.keep.get (by rw [hgetk]; rfl) (fun e => by have := hr2 _ e; omega)
  have hin0 : H4[H3.length]? = some ⟨[.str c.val], 1, .full⟩ := g3.keep.get (by rw [hget0]; rfl) (fun e => by have := hr2 _ e; omega)
  have hl4 : H3.length + 2 ≤ H4.length := by have := g3.keep.len; simpa using this
  have hr3 : ∀ b, r3.blk = some b → b ≠ H3.length + 1 := fun b hb e => by
    rcases g3.new b hb with h | h
    · have := hr2 b h; omega
    · simp at h; omega
  repeat' (first | simp only [go_sem, Nat.reduceLT, Nat.reduceEqDiff, Nat.reduceAdd, Nat.reduceMul, Nat.reduceSub, Nat.reduceLeDiff, Int.reduceToNat, Int.reduceNeg, Int.reduceLT, Int.reduceLE, Int.reduceEq, reduceCtorEq, Int.natCast_zero, Int.natCast_one, Int.cast_ofNat_Int, Bool.not_not, false_eq_decide, true_eq_decide, hread0, hreadk, read_cons0, read_consk, astore_h0, astore_hk, hget0, hgetk, hset0, hsetk, hlen, hcat, Nat.add_assoc, Nat.add_zero, Nat.zero_add, List.length_append, and_true, true_and, AV.flat, hb3, get_app hb3, read_get hb3, read_app hb3, *, -hK, -hkind, -hfl] | with_reducible refine IfB_dec (fun h => ?_) (fun h => ?_) | with_reducible refine Guard_dec (fun h => ?_) (fun h => ?_) | with_reducible refine Guard_ndec (fun h => ?_) (fun h => ?_) | with_reducible refine Guard_not (fun h => ?_) (fun h => ?_) | with_reducible refine IfB_ndec (fun h => ?_) (fun h => ?_) | with_reducible refine IfB_not (fun h => ?_) (fun h => ?_) | with_reducible refine Guard_split (fun h => ?_) (fun h => ?_) | with_reducible refine IfB_split (fun h => ?_) (fun h => ?_))
  refine (nums_spec (m := H.length + 1) _ _ _ [c.flags, c.for_] _ g3.own (by omega) (get_vs hin rfl rfl) (fun b hb e => by have := hr3 b e; simp [AV.blk] at hb; omega) (by simp at hkl htl hvl ⊢; omega)).mono ?_
  intro r4 H5 g4
  have hb4 := g4.keep.get hb3 (g3.own.ne (by omega))
  have hl5 := g4.keep.len
  repeat' (first | simp only [go_sem, Nat.reduceLT, Nat.reduceEqDiff, Nat.reduceAdd, Nat.reduceMul, Nat.reduceSub, Nat.reduceLeDiff, Int.reduceToNat, Int.reduceNeg, Int.reduceLT, Int.reduceLE, Int.reduceEq, reduceCtorEq, Int.natCast_zero, Int.natCast_one, Int.cast_ofNat_Int, Bool.not_not, false_eq_decide, true_eq_decide, hread0, hreadk, read_cons0, read_consk, astore_h0, astore_hk, hget0, hgetk, hset0, hsetk, hlen, hcat, Nat.add_assoc, Nat.add_zero, Nat.zero_add, List.length_append, and_true, true_and, AV.flat, hb4, get_app hb4, read_get hb4, read_app hb4, *, -hK, -hkind, -hfl] | with_reducible refine IfB_dec (fun h => ?_) (fun h => ?_) | with_reducible refine Guard_dec (fun h => ?_) (fun h => ?_) | with_reducible refine Guard_ndec (fun h => ?_) (fun h => ?_) | with_reducible refine Guard_not (fun h => ?_) (fun h => ?_) | with_reducible refine IfB_ndec (fun h => ?_) (fun h => ?_) | with_reducible refine IfB_not (fun h => ?_) (fun h => ?_) | with_reducible refine Guard_split (fun h => ?_) (fun h => ?_) | with_reducible refine IfB_split (fun h => ?_) (fun h => ?_))
  refine WX_rows hT hmix [(0, none), (1, none), (2, none), (5, none), (6, none), (3, some [false, false, true, true, false]), (4, some [true, false, false, true, true, true]), (7, some [true, true, true, true, true, true, true]), (8, some [true, true, true, true, true, true, true, true]), (9, none), (10, none)] (by kernel_rfl) ?_
  repeat' (first | simp only [go_sem, Nat.reduceLT, Nat.reduceEqDiff, Nat.reduceAdd, Nat.reduceMul, Nat.reduceSub, Nat.reduceLeDiff, Int.reduceToNat, Int.reduceNeg, Int.reduceLT, Int.reduceLE, Int.reduceEq, reduceCtorEq, Int.natCast_zero, Int.natCast_one, Int.cast_ofNat_Int, Bool.not_not, false_eq_decide, true_eq_decide, hread0, hreadk, read_cons0, read_consk, astore_h0, astore_hk, hget0, hgetk, hset0, hsetk, hlen, hcat, Nat.add_assoc, Nat.add_zero, Nat.zero_add, List.length_append, and_true, true_and, AV.flat, hb4, get_app hb4, read_get hb4, read_app hb4, *, -hK, -hkind, -hfl, -su, -sb] | refine WC.call (su _) ?_ | refine WC.call (sb _) ?_ | with_reducible refine IfB_dec (fun h => ?_) (fun h => ?_) | with_reducible refine Guard_dec (fun h => ?_) (fun h => ?_) | with_reducible refine Guard_ndec (fun h => ?_) (fun h => ?_) | with_reducible refine Guard_not (fun h => ?_) (fun h => ?_) | with_reducible refine IfB_ndec (fun h => ?_) (fun h => ?_) | with_reducible refine IfB_not (fun h => ?_) (fun h => ?_) | with_reducible refine Guard_split (fun h => ?_) (fun h => ?_) | with_reducible refine IfB_split (fun h => ?_) (fun h => ?_))
  refine append_gr (m := H.length + 1) g4.own se30 az5 td5 rfl (u8_src tk30) (by simp only [List.length_append, List.length_cons, List.length_nil]; omega) (by omega) ?_
  intro r6 H7 g6
  have hb6 := g6.keep.get hb4 (g4.own.ne (by omega))
  have hl7 := g6.keep.len
  repeat' (first | simp only [go_sem, Nat.reduceLT, Nat.reduceEqDiff, Nat.reduceAdd, Nat.reduceMul, Nat.reduceSub, Nat.reduceLeDiff, Int.reduceToNat, Int.reduceNeg, Int.reduceLT, Int.reduceLE, Int.reduceEq, reduceCtorEq, Int.natCast_zero, Int.natCast_one, Int.cast_ofNat_Int, Bool.not_not, false_eq_decide, true_eq_decide, hread0, hreadk, read_cons0, read_consk, astore_h0, astore_hk, hget0, hgetk, hset0, hsetk, hlen, hcat, Nat.add_assoc, Nat.add_zero, Nat.zero_add, List.length_append, and_true, true_and, AV.flat, hb6, get_app hb6, read_get hb6, read_app hb6, *, -hK, -hkind, -hfl, -su, -sb] | refine WC.call (su _) ?_ | refine WC.call (sb _) ?_ | with_reducible refine IfB_dec (fun h => ?_) (fun h => ?_) | with_reducible refine Guard_dec (fun h => ?_) (fun h => ?_) | with_reducible refine Guard_ndec (fun h => ?_) (fun h => ?_) | with_reducible refine Guard_not (fun h => ?_) (fun h => ?_) | with_reducible refine IfB_ndec (fun h => ?_) (fun h => ?_) | with_reducible refine IfB_not (fun h => ?_) (fun h => ?_) | with_reducible refine Guard_split (fun h => ?_) (fun h => ?_) | with_reducible refine IfB_split (fun h => ?_) (fun h => ?_))
  refine append_gr (m := H.length + 1) g6.own se30 az5 td5 rfl (u8_src tk30) (by simp only [List.length_append, List.length_cons, List.length_nil]; omega) (by omega) ?_
  intro r8 H9 g8
  have gA := g12.trans (Grow.pre (Keep.app none _ _) g3)
  have gB := (gA.trans g4).trans (g6.trans g8)
  have gk := gB.keep0 (G := H) (Keep.app _ _ _) (fun b hb => by simp [AV.blk] at hb; omega)
  repeat' (first | simp only [go_sem, Nat.reduceLT, Nat.reduceEqDiff, Nat.reduceAdd, Nat.reduceMul, Nat.reduceSub, Nat.reduceLeDiff, Int.reduceToNat, Int.reduceNeg, Int.reduceLT, Int.reduceLE, Int.reduceEq, reduceCtorEq, Int.natCast_zero, Int.natCast_one, Int.cast_ofNat_Int, Bool.not_not, false_eq_decide, true_eq_decide, hread0, hreadk, read_cons0, read_consk, astore_h0, astore_hk, hget0, hgetk, hset0, hsetk, hlen, hcat, Nat.add_assoc, Nat.add_zero, Nat.zero_add, List.length_append, and_true, true_and, AV.flat, *, -hK, -hkind, -hfl] | with_reducible refine IfB_dec (fun h => ?_) (fun h => ?_) | with_reducible refine Guard_dec (fun h => ?_) (fun h => ?_) | with_reducible refine Guard_ndec (fun h => ?_) (fun h => ?_) | with_reducible refine Guard_not (fun h => ?_) (fun h => ?_) | with_reducible refine IfB_ndec (fun h => ?_) (fun h => ?_) | with_reducible refine IfB_not (fun h => ?_) (fun h => ?_) | with_reducible refine Guard_split (fun h => ?_) (fun h => ?_) | with_reducible refine IfB_split (fun h => ?_) (fun h => ?_))
  exact hK _ _ ⟨⟨_, rfl, Ob.mono gB.own (by omega)⟩, gk⟩
theorem commandP (c : Cmd) (ho : c.Ok) (hn : c.keys.length ≤ 140737488355328) (H : Heap) : WC Try.prog 24 [c.av] H fun r H' => r = .tup [Enc.u8.lst (commandL c).1, .int .i64 (commandL c).2] ∧ H' = H :=
  WC_froze (Q := fun r => r = _) ((command_own c ho hn H).mono fun r H' ⟨⟨b, h1, h2⟩, h3⟩ => ⟨_, by rw [h1]; exact Thaw.tup_row ⟨Thaw.ob h2, .int _ _, trivial⟩, h3, rfl⟩)
open Go Go.Proofs Go.Proofs.PI
theorem refCommand_own (c : Cmd) (ho : c.Ok) (hn : c.keys.length ≤ 140737488355328) (H : Heap) : WC Try.prog 25 [c.av] H fun r H' => (∃ b, r = .tup [b, .int .i64 (commandL c).2] ∧ Ob H.length H' b (commandL c).1) ∧ Keep none H H' := by
  refine WC_of_K fun K hK => ?_
  have sp := fun J => refShaped_spec c hn J
  unfold Cmd.av at sp
  by_cases hs : shapedB c = true
  rotate_left
  · have hcl : commandL c = ([], 8) := if_neg hs
    rw [hcl] at hK
    rw [(by simpa using hs : shapedB c = false)] at sp
    refine WC_of_body hT Try.func25 rfl (by simp [Try.f25]) (by simp [Try.f25]) (wx_sound hT _ ?_)
    simp only [Try.f25]
    repeat' (first | simp only [go_sem, Nat.reduceLT, Nat.reduceEqDiff, Nat.reduceAdd, Nat.reduceMul, Nat.reduceSub, Nat.reduceLeDiff, Int.reduceToNat, Int.reduceNeg, Int.reduceLT, Int.reduceLE, Int.reduceEq, reduceCtorEq, Int.natCast_zero, Int.natCast_one, Int.cast_ofNat_Int, Bool.not_not, false_eq_decide, true_eq_decide, hread0, hreadk, read_cons0, read_consk, astore_h0, astore_hk, hget0, hgetk, hset0, hsetk, hlen, hcat, Nat.add_assoc, Nat.add_zero, Nat.zero_add, List.length_append, and_true, true_and, AV.flat, Cmd.av, *, -hK, -sp, -hs, -hcl] | refine WC.call (sp _) ?_ | with_reducible refine IfB_dec (fun h => ?_) (fun h => ?_) | with_reducible refine Guard_dec (fun h => ?_) (fun h => ?_) | with_reducible refine Guard_ndec (fun h => ?_) (fun h => ?_) | with_reducible refine Guard_not (fun h => ?_) (fun h => ?_) | with_reducible refine IfB_ndec (fun h => ?_) (fun h => ?_) | with_reducible refine IfB_not (fun h => ?_) (fun h => ?_) | with_reducible refine Guard_split (fun h => ?_) (fun h => ?_) | with_reducible refine IfB_split (fun h => ?_) (fun h => ?_))
    exact hK _ _ ⟨⟨_, rfl, Ob.nils _ _⟩, Keep.app _ _ _⟩
  have hcl : commandL c = (cmdL c, 0) := if_pos hs
  rw [hcl] at hK
  rw [hs] at sp
  have hsh := hs
  simp only [shapedB, Bool.and_eq_true, decide_eq_true_eq] at hsh
  obtain ⟨z1, z2, z3, z4, z5, z6, z7, z8, z9⟩ := hsh
  have hkl : (numsL [c.ten, (c.keys.length : Int)]).length ≤ 20 := numsL_len _
  have htl := textsL_keys z1 z6
  have hvl := textL_len (s := c.val) (by omega)
  have hfu : IntKind.u64.wrap c.flags = c.flags := u64w_id (by have := ho.flags; omega) (by have := ho.flags; omega)
  have hn1 : (numsL [c.for_]).length ≤ 10 := numsL_len _
  have hf10 := small_len10 (n := c.flags.toNat) (by have := ho.flags; omega)
  have hu10 := small_len10 (n := c.uniq.toNat) (by have := ho.uniq; omega)
  have hb10 := small_len10 (n := c.by_.toNat) (by have := ho.by_; omega)
  have sf := fun J => refSmallP c.flags ho.flags.1 (by have := ho.flags; omega) J
  have su := fun J => refSmallP c.uniq ho.uniq.1 ho.uniq.2 J
  have sb := fun J => refSmallP c.by_ ho.by_.1 ho.by_.2 J
  have sv := fun J => refTextP c.val (by omega) J
  have hkind : [AV.int .u8 c.kind] = byc [UInt8.ofNat c.kind.toNat] := by
    have := ho.kind; simp [byc]; omega
  refine WC_of_body hT Try.func25 rfl (by simp [Try.f25]) (by simp [Try.f25]) (wx_sound hT _ ?_)
  simp only [Try.f25]
  repeat' (first | simp only [go_sem, Nat.reduceLT, Nat.reduceEqDiff, Nat.reduceAdd, Nat.reduceMul, Nat.reduceSub, Nat.reduceLeDiff, Int.reduceToNat, Int.reduceNeg, Int.reduceLT, Int.reduceLE, Int.reduceEq, reduceCtorEq, Int.natCast_zero, Int.natCast_one, Int.cast_ofNat_Int, Bool.not_not, false_eq_decide, true_eq_decide, hread0, hreadk, read_cons0, read_consk, astore_h0, astore_hk, hget0, hgetk, hset0, hsetk, hlen, hcat, Nat.add_assoc, Nat.add_zero, Nat.zero_add, List.length_append, and_true, true_and, AV.flat, Cmd.av, *, -hK, -sp, -hs, -hcl, -hkind, -hfu, -sf, -su, -sb, -sv] | refine WC.call (sp _) ?_ | with_reducible refine IfB_dec (fun h => ?_) (fun h => ?_) | with_reducible refine Guard_dec (fun h => ?_) (fun h => ?_) | with_reducible refine Guard_ndec (fun h => ?_) (fun h => ?_) | with_reducible refine Guard_not (fun h => ?_) (fun h => ?_) | with_reducible refine IfB_ndec (fun h => ?_) (fun h => ?_) | with_reducible refine IfB_not (fun h => ?_) (fun h => ?_) | with_reducible refine Guard_split (fun h => ?_) (fun h => ?_) | with_reducible refine IfB_split (fun h => ?_) (fun h => ?_))
  clear sp hs hcl
  refine (refNums_spec _ [c.ten, c.keys.length] _ (get_vs (by rw [hgetk]; rfl) rfl rfl) (by simp)).mono ?_
  rintro r1 H2 ⟨o2, k2⟩
  have o1 : Ob (H.length + 1) (H ++ [(⟨c.cs, 0, .full⟩ : Blk), ⟨[.int .u8 c.kind], 1, .full⟩, ⟨[.int .i64 c.ten, .int .i64 c.keys.length], 1, .full⟩]) (.sl (H.length + 1) 0 1 none) [UInt8.ofNat c.kind.toNat] :=
    Own.whole (Nat.le_refl _) (by rw [hgetk, ← hkind]; rfl) rfl rfl
  have hl2 : H.length + 3 ≤ H2.length := by have := k2.len; simpa using this
  repeat' (first | simp only [go_sem, Nat.reduceLT, Nat.reduceEqDiff, Nat.reduceAdd, Nat.reduceMul, Nat.reduceSub, Nat.reduceLeDiff, Int.reduceToNat, Int.reduceNeg, Int.reduceLT, Int.reduceLE, Int.reduceEq, reduceCtorEq, Int.natCast_zero, Int.natCast_one, Int.cast_ofNat_Int, Bool.not_not, false_eq_decide, true_eq_decide, hread0, hreadk, read_cons0, read_consk, astore_h0, astore_hk, hget0, hgetk, hset0, hsetk, hlen, hcat, Nat.add_assoc, Nat.add_zero, Nat.zero_add, List.length_append, and_true, true_and, AV.flat, *, -hK, -hkind, -hfu, -sf, -su, -sb, -sv] | with_reducible refine IfB_dec (fun h => ?_) (fun h => ?_) | with_reducible refine Guard_dec (fun h => ?_) (fun h => ?_) | with_reducible refine Guard_ndec (fun h => ?_) (fun h => ?_) | with_reducible refine Guard_not (fun h => ?_) (fun h => ?_) | with_reducible refine IfB_ndec (fun h => ?_) (fun h => ?_) | with_reducible refine IfB_not (fun h => ?_) (fun h => ?_) | with_reducible refine Guard_split (fun h => ?_) (fun h => ?_) | with_reducible refine IfB_split (fun h => ?_) (fun h => ?_))
  refine append_gr (m := H.length + 1) (o1.keep0 k2) se30 az5 td5 rfl (o2.bs.src tk30) (by simp only [List.length_append, List.length_cons, List.length_nil]; omega) (by omega) ?_
  intro r3 H3 g3
  have gT := Grow.pre k2 g3
  have hbG : ∀ {v : AV} {G : Heap} {l : List UInt8}, Grow (H.length + 1) (H ++ [(⟨c.cs, 0, .full⟩ : Blk), ⟨[.int .u8 c.kind], 1, .full⟩, ⟨[.int .i64 c.ten, .int .i64 c.keys.length], 1, .full⟩]) (.sl (H.length + 1) 0 1 none) G v l → G[H.length]? = some ⟨c.cs, 0, .full⟩ ∧ H.length + 3 ≤ G.length := fun g => ⟨g.keep.get (by rw [hget0]; rfl) (by simp [AV.blk]), by have := g.keep.len; simpa using this⟩
  unfold Cmd.cs at hbG gT
  clear o1 o2 k2 hl2 g3
  repeat' (first | simp only [go_sem, Nat.reduceLT, Nat.reduceEqDiff, Nat.reduceAdd, Nat.reduceMul, Nat.reduceSub, Nat.reduceLeDiff, Int.reduceToNat, Int.reduceNeg, Int.reduceLT, Int.reduceLE, Int.reduceEq, reduceCtorEq, Int.natCast_zero, Int.natCast_one, Int.cast_ofNat_Int, Bool.not_not, false_eq_decide, true_eq_decide, hread0, hreadk, read_cons0, read_consk, astore_h0, astore_hk, hget0, hgetk, hset0, hsetk, hlen, hcat, Nat.add_assoc, Nat.add_zero, Nat.zero_add, List.length_append, and_true, true_and, AV.flat, *, -hK, -hkind, -hfu, -sf, -su, -sb, -sv] | with_reducible refine IfB_dec (fun h => ?_) (fun h => ?_) | with_reducible refine Guard_dec (fun h => ?_) (fun h => ?_) | with_reducible refine Guard_ndec (fun h => ?_) (fun h => ?_) | with_reducible refine Guard_not (fun h => ?_) (fun h => ?_) | with_reducible refine IfB_ndec (fun h => ?_) (fun h => ?_) | with_reducible refine IfB_not (fun h => ?_) (fun h => ?_) | with_reducible refine Guard_split (fun h => ?_) (fun h => ?_) | with_reducible refine IfB_split (fun h => ?_) (fun h => ?_))
  refine WX_loopS [1, 2, 3] (fun k fr' H' => ∃ (i : Nat) (a : AV), k = c.keys.length - i ∧ i ≤ c.keys.length ∧ fr'.get 4 = a ∧ fr'.get 5 = .int .i64 i ∧ Grow (H.length + 1) (H ++ [(⟨[.int .u8 c.kind, .int .i64 c.ten, Enc.str.lst c.keys, .str c.val, .int .u32 c.flags, .int .i64 c.for_, .int .u64 c.uniq, .int .u64 c.by_], 0, .full⟩ : Blk), ⟨[.int .u8 c.kind], 1, .full⟩, ⟨[.int .i64 c.ten, .int .i64 c.keys.length], 1, .full⟩]) (.sl (H.length + 1) 0 1 none) H' a ([UInt8.ofNat c.kind.toNat] ++ numsL [c.ten, c.keys.length] ++ textsL (c.keys.take i))) c.keys.length ⟨0, r3, rfl, by omega, by simp only [go_sem, Nat.reduceLT, Nat.reduceEqDiff, Nat.reduceAdd, Nat.reduceMul, Nat.reduceSub, Nat.reduceLeDiff, Int.reduceToNat, Int.reduceNeg, Int.reduceLT, Int.reduceLE, Int.reduceEq, reduceCtorEq], by simp only [go_sem, Nat.reduceLT, Nat.reduceEqDiff, Nat.reduceAdd, Nat.reduceMul, Nat.reduceSub, Nat.reduceLeDiff, Int.reduceToNat, Int.reduceNeg, Int.reduceLT, Int.reduceLE, Int.reduceEq, reduceCtorEq]; rfl, gT.eq (by simp [textsL])⟩ ?_
  rintro k fr' H' A R hA hs hg hR ⟨i, a, rfl, hi, f4, f5, g⟩
  have s1 := hg 1 (by decide)
  have s2 := hg 2 (by decide)
  have s3 := hg 3 (by decide)
  simp only [Fr.get_put, Fr.get_init, List.getD_cons_zero, List.getD_cons_succ, Nat.reduceEqDiff, if_true, if_false] at s1 s2 s3
  obtain ⟨hbi, hli⟩ := hbG g
  refine wx_sound hT _ ?_
  repeat' (first | simp only [go_sem, Nat.reduceLT, Nat.reduceEqDiff, Nat.reduceAdd, Nat.reduceMul, Nat.reduceSub, Nat.reduceLeDiff, Int.reduceToNat, Int.reduceNeg, Int.reduceLT, Int.reduceLE, Int.reduceEq, reduceCtorEq, Int.natCast_zero, Int.natCast_one, Int.cast_ofNat_Int, Bool.not_not, false_eq_decide, true_eq_decide, hread0, hreadk, read_cons0, read_consk, astore_h0, astore_hk, hget0, hgetk, hset0, hsetk, hlen, hcat, Nat.add_assoc, Nat.add_zero, Nat.zero_add, List.length_append, and_true, true_and, AV.flat, hbi, get_app hbi, read_get hbi, read_app hbi, *, -hK, -hkind, -hfu, -sf, -su, -sb, -sv] | with_reducible refine IfB_dec (fun h => ?_) (fun h => ?_) | with_reducible refine Guard_dec (fun h => ?_) (fun h => ?_) | with_reducible refine Guard_ndec (fun h => ?_) (fun h => ?_) | with_reducible refine Guard_not (fun h => ?_) (fun h => ?_) | with_reducible refine IfB_ndec (fun h => ?_) (fun h => ?_) | with_reducible refine IfB_not (fun h => ?_) (fun h => ?_) | with_reducible refine Guard_split (fun h => ?_) (fun h => ?_) | with_reducible refine IfB_split (fun h => ?_) (fun h => ?_))
  case refine_1 =>
    have hlt : i < c.keys.length := by omega
    have hkk : c.keys[i].length ≤ 32 := by
      have := List.all_eq_true.1 z1 _ (List.getElem_mem hlt)
      simp only [keyB, decide_eq_true_eq] at this; exact this.2
    have hsum : (textsL (c.keys.take i)).length ≤ 336 := textsL_keys (by rw [List.all_eq_true]; intro x hx; exact List.all_eq_true.1 z1 x (List.mem_of_mem_take hx)) (by rw [List.length_take]; omega)
    have hone := textL_len (s := c.keys[i]) (by omega)
    have e1 := at_enc (E := Enc.str) (T := T) (k := .i64) se42 hlt rfl
    have e3 := inc_id hlt hn
    have tk := fun J => refTextP c.keys[i] (by omega) J
    repeat' (first | simp only [go_sem, Nat.reduceLT, Nat.reduceEqDiff, Nat.reduceAdd, Nat.reduceMul, Nat.reduceSub, Nat.reduceLeDiff, Int.reduceToNat, Int.reduceNeg, Int.reduceLT, Int.reduceLE, Int.reduceEq, reduceCtorEq, Int.natCast_zero, Int.natCast_one, Int.cast_ofNat_Int, Bool.not_not, false_eq_decide, true_eq_decide, hread0, hreadk, read_cons0, read_consk, astore_h0, astore_hk, hget0, hgetk, hset0, hsetk, hlen, hcat, Nat.add_assoc, Nat.add_zero, Nat.zero_add, List.length_append, and_true, true_and, AV.flat, hbi, get_app hbi, read_get hbi, read_app hbi, str_cells, *, -hK, -hkind, -hfu, -sf, -su, -sb, -sv, -tk] | refine WC.call (tk _) ?_ | with_reducible refine IfB_dec (fun h => ?_) (fun h => ?_) | with_reducible refine Guard_dec (fun h => ?_) (fun h => ?_) | with_reducible refine Guard_ndec (fun h => ?_) (fun h => ?_) | with_reducible refine Guard_not (fun h => ?_) (fun h => ?_) | with_reducible refine IfB_ndec (fun h => ?_) (fun h => ?_) | with_reducible refine IfB_not (fun h => ?_) (fun h => ?_) | with_reducible refine Guard_split (fun h => ?_) (fun h => ?_) | with_reducible refine IfB_split (fun h => ?_) (fun h => ?_))
    refine append_gr (m := H.length + 1) g.own se30 az5 td5 rfl (u8_src tk30) (by simp only [List.length_append, List.length_cons, List.length_nil]; omega) (by omega) ?_
    intro r5 H5 g5
    repeat' (first | simp only [go_sem, Nat.reduceLT, Nat.reduceEqDiff, Nat.reduceAdd, Nat.reduceMul, Nat.reduceSub, Nat.reduceLeDiff, Int.reduceToNat, Int.reduceNeg, Int.reduceLT, Int.reduceLE, Int.reduceEq, reduceCtorEq, Int.natCast_zero, Int.natCast_one, Int.cast_ofNat_Int, Bool.not_not, false_eq_decide, true_eq_decide, hread0, hreadk, read_cons0, read_consk, astore_h0, astore_hk, hget0, hgetk, hset0, hsetk, hlen, hcat, Nat.add_assoc, Nat.add_zero, Nat.zero_add, List.length_append, and_true, true_and, AV.flat, *, -hK, -hkind, -hfu, -sf, -su, -sb, -sv, -tk] | with_reducible refine IfB_dec (fun h => ?_) (fun h => ?_) | with_reducible refine Guard_dec (fun h => ?_) (fun h => ?_) | with_reducible refine Guard_ndec (fun h => ?_) (fun h => ?_) | with_reducible refine Guard_not (fun h => ?_) (fun h => ?_) | with_reducible refine IfB_ndec (fun h => ?_) (fun h => ?_) | with_reducible refine IfB_not (fun h => ?_) (fun h => ?_) | with_reducible refine Guard_split (fun h => ?_) (fun h => ?_) | with_reducible refine IfB_split (fun h => ?_) (fun h => ?_))
    exact hR _ _ (by (repeat (first | exact hs | refine hA _ _ _ (by decide) ?_))) (c.keys.length - (i + 1)) (by omega) ⟨i + 1, r5, rfl, by omega, by simp only [go_sem, Nat.reduceLT, Nat.reduceEqDiff, Nat.reduceAdd, Nat.reduceMul, Nat.reduceSub, Nat.reduceLeDiff, Int.reduceToNat, Int.reduceNeg, Int.reduceLT, Int.reduceLE, Int.reduceEq, reduceCtorEq], by simp only [go_sem, Nat.reduceLT, Nat.reduceEqDiff, Nat.reduceAdd, Nat.reduceMul, Nat.reduceSub, Nat.reduceLeDiff, Int.reduceToNat, Int.reduceNeg, Int.reduceLT, Int.reduceLE, Int.reduceEq, reduceCtorEq], (g.trans g5).eq (by rw [textsL_snoc _ i hlt]; simp)⟩
  case refine_2 =>
    have hin : i = c.keys.length := by omega
    rw [hin, List.take_length] at g
    clear hR hA hs hg A R
    repeat' (first | simp only [go_sem, Nat.reduceLT, Nat.reduceEqDiff, Nat.reduceAdd, Nat.reduceMul, Nat.reduceSub, Nat.reduceLeDiff, Int.reduceToNat, Int.reduceNeg, Int.reduceLT, Int.reduceLE, Int.reduceEq, reduceCtorEq, Int.natCast_zero, Int.natCast_one, Int.cast_ofNat_Int, Bool.not_not, false_eq_decide, true_eq_decide, hread0, hreadk, read_cons0, read_consk, astore_h0, astore_hk, hget0, hgetk, hset0, hsetk, hlen, hcat, Nat.add_assoc, Nat.add_zero, Nat.zero_add, List.length_append, and_true, true_and, AV.flat, hbi, get_app hbi, read_get hbi, read_app hbi, *, -hK, -hkind, -hfu, -sf, -su, -sb, -sv, -hin] | refine WC.call (sv _) ?_ | with_reducible refine IfB_dec (fun h => ?_) (fun h => ?_) | with_reducible refine Guard_dec (fun h => ?_) (fun h => ?_) | with_reducible refine Guard_ndec (fun h => ?_) (fun h => ?_) | with_reducible refine Guard_not (fun h => ?_) (fun h => ?_) | with_reducible refine IfB_ndec (fun h => ?_) (fun h => ?_) | with_reducible refine IfB_not (fun h => ?_) (fun h => ?_) | with_reducible refine Guard_split (fun h => ?_) (fun h => ?_) | with_reducible refine IfB_split (fun h => ?_) (fun h => ?_))
    refine append_gr (m := H.length + 1) g.own se30 az5 td5 rfl (u8_src tk30) (by simp only [List.length_append, List.length_cons, List.length_nil]; omega) (by omega) ?_
    intro r5 H5 g5
    have gA := g.trans g5
    obtain ⟨hb5, hl5⟩ := hbG gA
    repeat' (first | simp only [go_sem, Nat.reduceLT, Nat.reduceEqDiff, Nat.reduceAdd, Nat.reduceMul, Nat.reduceSub, Nat.reduceLeDiff, Int.reduceToNat, Int.reduceNeg, Int.reduceLT, Int.reduceLE, Int.reduceEq, reduceCtorEq, Int.natCast_zero, Int.natCast_one, Int.cast_ofNat_Int, Bool.not_not, false_eq_decide, true_eq_decide, hread0, hreadk, read_cons0, read_consk, astore_h0, astore_hk, hget0, hgetk, hset0, hsetk, hlen, hcat, Nat.add_assoc, Nat.add_zero, Nat.zero_add, List.length_append, and_true, true_and, AV.flat, hb5, get_app hb5, read_get hb5, read_app hb5, *, -hK, -hkind, -sf, -su, -sb, -sv, -hin] | refine WC.call (sf _) ?_ | with_reducible refine IfB_dec (fun h => ?_) (fun h => ?_) | with_reducible refine Guard_dec (fun h => ?_) (fun h => ?_) | with_reducible refine Guard_ndec (fun h => ?_) (fun h => ?_) | with_reducible refine Guard_not (fun h => ?_) (fun h => ?_) | with_reducible refine IfB_ndec (fun h => ?_) (fun h => ?_) | with_reducible refine IfB_not (fun h => ?_) (fun h => ?_) | with_reducible refine Guard_split (fun h => ?_) (fun h => ?_) | with_reducible refine IfB_split (fun h => ?_) (fun h => ?_))
    refine append_gr (m := H.length + 1) gA.own se30 az5 td5 rfl (u8_src tk30) (by simp only [List.length_append, List.length_cons, List.length_nil]; omega) (by omega) ?_
    intro r7 H7 g7
    have gB := gA.trans g7
    obtain ⟨hb7, hl7⟩ := hbG gB
    repeat' (first | simp only [go_sem, Nat.reduceLT, Nat.reduceEqDiff, Nat.reduceAdd, Nat.reduceMul, Nat.reduceSub, Nat.reduceLeDiff, Int.reduceToNat, Int.reduceNeg, Int.reduceLT, Int.reduceLE, Int.reduceEq, reduceCtorEq, Int.natCast_zero, Int.natCast_one, Int.cast_ofNat_Int, Bool.not_not, false_eq_decide, true_eq_decide, hread0, hreadk, read_cons0, read_consk, astore_h0, astore_hk, hget0, hgetk, hset0, hsetk, hlen, hcat, Nat.add_assoc, Nat.add_zero, Nat.zero_add, List.length_append, and_true, true_and, AV.flat, hb7, get_app hb7, read_get hb7, read_app hb7, *, -hK, -hkind, -sf, -su, -sb, -sv, -hin] | with_reducible refine IfB_dec (fun h => ?_) (fun h => ?_) | with_reducible refine Guard_dec (fun h => ?_) (fun h => ?_) | with_reducible refine Guard_ndec (fun h => ?_) (fun h => ?_) | with_reducible refine Guard_not (fun h => ?_) (fun h => ?_) | with_reducible refine IfB_ndec (fun h => ?_) (fun h => ?_) | with_reducible refine IfB_not (fun h => ?_) (fun h => ?_) | with_reducible refine Guard_split (fun h => ?_) (fun h => ?_) | with_reducible refine IfB_split (fun h => ?_) (fun h => ?_))
    refine (refNums_spec _ [c.for_] _ (snoc_vs rfl rfl) (by simp)).mono ?_
    rintro r8 H8 ⟨o8, k8⟩
    have k78 : Keep none H7 H8 := (Keep.snoc none _ _).trans k8
    have hl8 := k78.len
    repeat' (first | simp only [go_sem, Nat.reduceLT, Nat.reduceEqDiff, Nat.reduceAdd, Nat.reduceMul, Nat.reduceSub, Nat.reduceLeDiff, Int.reduceToNat, Int.reduceNeg, Int.reduceLT, Int.reduceLE, Int.reduceEq, reduceCtorEq, Int.natCast_zero, Int.natCast_one, Int.cast_ofNat_Int, Bool.not_not, false_eq_decide, true_eq_decide, hread0, hreadk, read_cons0, read_consk, astore_h0, astore_hk, hget0, hgetk, hset0, hsetk, hlen, hcat, Nat.add_assoc, Nat.add_zero, Nat.zero_add, List.length_append, and_true, true_and, AV.flat, *, -hK, -hkind, -sf, -su, -sb, -sv, -hin] | with_reducible refine IfB_dec (fun h => ?_) (fun h => ?_) | with_reducible refine Guard_dec (fun h => ?_) (fun h => ?_) | with_reducible refine Guard_ndec (fun h => ?_) (fun h => ?_) | with_reducible refine Guard_not (fun h => ?_) (fun h => ?_) | with_reducible refine IfB_ndec (fun h => ?_) (fun h => ?_) | with_reducible refine IfB_not (fun h => ?_) (fun h => ?_) | with_reducible refine Guard_split (fun h => ?_) (fun h => ?_) | with_reducible refine IfB_split (fun h => ?_) (fun h => ?_))
    refine append_gr (m := H.length + 1) (gB.own.keep0 k78) se30 az5 td5 rfl (o8.bs.src tk30) (by simp only [List.length_append, List.length_cons, List.length_nil]; omega) (by omega) ?_
    intro r9 H9 g9
    have gC := gB.trans (Grow.pre k78 g9)
    obtain ⟨hb9, hl9⟩ := hbG gC
    repeat' (first | simp only [go_sem, Nat.reduceLT, Nat.reduceEqDiff, Nat.reduceAdd, Nat.reduceMul, Nat.reduceSub, Nat.reduceLeDiff, Int.reduceToNat, Int.reduceNeg, Int.reduceLT, Int.reduceLE, Int.reduceEq, reduceCtorEq, Int.natCast_zero, Int.natCast_one, Int.cast_ofNat_Int, Bool.not_not, false_eq_decide, true_eq_decide, hread0, hreadk, read_cons0, read_consk, astore_h0, astore_hk, hget0, hgetk, hset0, hsetk, hlen, hcat, Nat.add_assoc, Nat.add_zero, Nat.zero_add, List.length_append, and_true, true_and, AV.flat, hb9, get_app hb9, read_get hb9, read_app hb9, *, -hK, -hkind, -sf, -su, -sb, -sv, -hin] | refine WC.call (su _) ?_ | with_reducible refine IfB_dec (fun h => ?_) (fun h => ?_) | with_reducible refine Guard_dec (fun h => ?_) (fun h => ?_) | with_reducible refine Guard_ndec (fun h => ?_) (fun h => ?_) | with_reducible refine Guard_not (fun h => ?_) (fun h => ?_) | with_reducible refine IfB_ndec (fun h => ?_) (fun h => ?_) | with_reducible refine IfB_not (fun h => ?_) (fun h => ?_) | with_reducible refine Guard_split (fun h => ?_) (fun h => ?_) | with_reducible refine IfB_split (fun h => ?_) (fun h => ?_))
    refine append_gr (m := H.length + 1) gC.own se30 az5 td5 rfl (u8_src tk30) (by simp only [List.length_append, List.length_cons, List.length_nil]; omega) (by omega) ?_
    intro r11 H11 g11
    have gD := gC.trans g11
    obtain ⟨hb11, hl11⟩ := hbG gD
    repeat' (first | simp only [go_sem, Nat.reduceLT, Nat.reduceEqDiff, Nat.reduceAdd, Nat.reduceMul, Nat.reduceSub, Nat.reduceLeDiff, Int.reduceToNat, Int.reduceNeg, Int.reduceLT, Int.reduceLE, Int.reduceEq, reduceCtorEq, Int.natCast_zero, Int.natCast_one, Int.cast_ofNat_Int, Bool.not_not, false_eq_decide, true_eq_decide, hread0, hreadk, read_cons0, read_consk, astore_h0, astore_hk, hget0, hgetk, hset0, hsetk, hlen, hcat, Nat.add_assoc, Nat.add_zero, Nat.zero_add, List.length_append, and_true, true_and, AV.flat, hb11, get_app hb11, read_get hb11, read_app hb11, *, -hK, -hkind, -sf, -su, -sb, -sv, -hin] | refine WC.call (sb _) ?_ | with_reducible refine IfB_dec (fun h => ?_) (fun h => ?_) | with_reducible refine Guard_dec (fun h => ?_) (fun h => ?_) | with_reducible refine Guard_ndec (fun h => ?_) (fun h => ?_) | with_reducible refine Guard_not (fun h => ?_) (fun h => ?_) | with_reducible refine IfB_ndec (fun h => ?_) (fun h => ?_) | with_reducible refine IfB_not (fun h => ?_) (fun h => ?_) | with_reducible refine Guard_split (fun h => ?_) (fun h => ?_) | with_reducible refine IfB_split (fun h => ?_) (fun h => ?_))
    refine append_gr (m := H.length + 1) gD.own se30 az5 td5 rfl (u8_src tk30) (by simp only [List.length_append, List.length_cons, List.length_nil]; omega) (by omega) ?_
    intro r13 H13 g13
    have gE := gD.trans g13
    repeat' (first | simp only [go_sem, Nat.reduceLT, Nat.reduceEqDiff, Nat.reduceAdd, Nat.reduceMul, Nat.reduceSub, Nat.reduceLeDiff, Int.reduceToNat, Int.reduceNeg, Int.reduceLT, Int.reduceLE, Int.reduceEq, reduceCtorEq, Int.natCast_zero, Int.natCast_one, Int.cast_ofNat_Int, Bool.not_not, false_eq_decide, true_eq_decide, hread0, hreadk, read_cons0, read_consk, astore_h0, astore_hk, hget0, hgetk, hset0, hsetk, hlen, hcat, Nat.add_assoc, Nat.add_zero, Nat.zero_add, List.length_append, and_true, true_and, AV.flat, *, -hK, -hkind, -sf, -su, -sb, -sv, -hin] | with_reducible refine IfB_dec (fun h => ?_) (fun h => ?_) | with_reducible refine Guard_dec (fun h => ?_) (fun h => ?_) | with_reducible refine Guard_ndec (fun h => ?_) (fun h => ?_) | with_reducible refine Guard_not (fun h => ?_) (fun h => ?_) | with_reducible refine IfB_ndec (fun h => ?_) (fun h => ?_) | with_reducible refine IfB_not (fun h => ?_) (fun h => ?_) | with_reducible refine Guard_split (fun h => ?_) (fun h => ?_) | with_reducible refine IfB_split (fun h => ?_) (fun h => ?_))
    have he : cmdL c = [UInt8.ofNat c.kind.toNat] ++ numsL [c.ten, ↑c.keys.length] ++ textsL c.keys ++ textL c.val ++ small c.flags.toNat ++ numsL [c.for_] ++ small c.uniq.toNat ++ small c.by_.toNat := by
      simp [cmdL, textsL, numsL, hfu]
    rw [he] at hK
    exact hK _ _ ⟨⟨_, rfl, Ob.mono gE.own (by omega)⟩, gE.keep0 (G := H) (Keep.app _ _ _) (fun b hb => by simp [AV.blk] at hb; omega)⟩
theorem refCommandP (c : Cmd) (ho : c.Ok) (hn : c.keys.length ≤ 140737488355328) (H : Heap) : WC Try.prog 25 [c.av] H fun r H' => r = .tup [Enc.u8.lst (commandL c).1, .int .i64 (commandL c).2] ∧ H' = H :=
  WC_froze (Q := fun r => r = _) ((refCommand_own c ho hn H).mono fun r H' ⟨⟨b, h1, h2⟩, h3⟩ => ⟨_, by rw [h1]; exact Thaw.tup_row ⟨Thaw.ob h2, .int _ _, trivial⟩, h3, rfl⟩)
/-! ### the document's reader -/
theorem Number_spec (p m : Nat) (hm : m < 2 ^ 64) (l : List UInt8) (bad : Bool) (hl : l.length ≤ 140737488355328) (H : Heap) (hb : H[p]? = some ⟨[Enc.u8.lst l, .bool bad], 0, .full⟩) :
    WC Try.prog 53 [.ptr p 0, .int .u64 m] H fun r H' => r = .int .u64 (numR m ⟨l, bad⟩).1 ∧ H' = List.set H p (numR m ⟨l, bad⟩).2.blk := by
  refine WC_of_K fun K hK => ?_
  have rp := fun J => refReadP l hl J
  cases hr : rd 0 l with
  | none =>
    have e : numR m ⟨l, bad⟩ = (0, ⟨l, true⟩) := by unfold numR; simp only [hr]
    rw [e] at hK
    rw [hr] at rp
    unfold rdV at rp
    refine WC_of_body hT Try.func53 rfl (by simp [Try.f53]) (by simp [Try.f53]) (wx_sound hT _ ?_)
    simp only [Try.f53]
    repeat' (first | simp only [go_sem, Nat.reduceLT, Nat.reduceEqDiff, Nat.reduceAdd, Nat.reduceMul, Nat.reduceSub, Nat.reduceLeDiff, Int.reduceToNat, Int.reduceNeg, Int.reduceLT, Int.reduceLE, Int.reduceEq, reduceCtorEq, Int.natCast_zero, Int.natCast_one, Int.cast_ofNat_Int, Bool.not_not, false_eq_decide, true_eq_decide, hread0, hreadk, read_cons0, read_consk, astore_h0, astore_hk, hget0, hgetk, hset0, hsetk, hlen, hcat, Nat.add_assoc, Nat.add_zero, Nat.zero_add, List.length_append, and_true, true_and, AV.flat, hb, get_app hb, read_get hb, read_app hb, astore_get hb, astore_app hb, get_set hb, get_set_app hb, read_set hb, read_set_app hb, astore_set hb, astore_set_app hb, List.set_set, hget0s, hgetks, hread0s, hreadks, List.length_set, *, -hK, -rp] | refine WC.call (rp _) ?_ | with_reducible refine IfB_dec (fun h => ?_) (fun h => ?_) | with_reducible refine Guard_dec (fun h => ?_) (fun h => ?_) | with_reducible refine Guard_ndec (fun h => ?_) (fun h => ?_) | with_reducible refine Guard_not (fun h => ?_) (fun h => ?_) | with_reducible refine IfB_ndec (fun h => ?_) (fun h => ?_) | with_reducible refine IfB_not (fun h => ?_) (fun h => ?_) | with_reducible refine Guard_split (fun h => ?_) (fun h => ?_) | with_reducible refine IfB_split (fun h => ?_) (fun h => ?_))
    exact hK _ _ ⟨rfl, rfl⟩
  | some q =>
    obtain ⟨n, k⟩ := q
    have h64 := rd_lt64 hr
    have hk := rd_len l 0 hr
    simp only at h64 hk
    rw [hr] at rp
    unfold rdV at rp
    by_cases hc : n > m
    · have e : numR m ⟨l, bad⟩ = (0, ⟨l, true⟩) := by unfold numR; simp only [hr, hc, if_true]
      have hc' : (m : Int) < n := by omega
      rw [e] at hK
      refine WC_of_body hT Try.func53 rfl (by simp [Try.f53]) (by simp [Try.f53]) (wx_sound hT _ ?_)
      simp only [Try.f53]
      repeat' (first | simp only [go_sem, Nat.reduceLT, Nat.reduceEqDiff, Nat.reduceAdd, Nat.reduceMul, Nat.reduceSub, Nat.reduceLeDiff, Int.reduceToNat, Int.reduceNeg, Int.reduceLT, Int.reduceLE, Int.reduceEq, reduceCtorEq, Int.natCast_zero, Int.natCast_one, Int.cast_ofNat_Int, Bool.not_not, false_eq_decide, true_eq_decide, hread0, hreadk, read_cons0, read_consk, astore_h0, astore_hk, hget0, hgetk, hset0, hsetk, hlen, hcat, Nat.add_assoc, Nat.add_zero, Nat.zero_add, List.length_append, and_true, true_and, AV.flat, hb, get_app hb, read_get hb, read_app hb, astore_get hb, astore_app hb, get_set hb, get_set_app hb, read_set hb, read_set_app hb, astore_set hb, astore_set_app hb, List.set_set, hget0s, hgetks, hread0s, hreadks, List.length_set, *, -hK, -rp] | refine WC.call (rp _) ?_ | with_reducible refine IfB_dec (fun h => ?_) (fun h => ?_) | with_reducible refine Guard_dec (fun h => ?_) (fun h => ?_) | with_reducible refine Guard_ndec (fun h => ?_) (fun h => ?_) | with_reducible refine Guard_not (fun h => ?_) (fun h => ?_) | with_reducible refine IfB_ndec (fun h => ?_) (fun h => ?_) | with_reducible refine IfB_not (fun h => ?_) (fun h => ?_) | with_reducible refine Guard_split (fun h => ?_) (fun h => ?_) | with_reducible refine IfB_split (fun h => ?_) (fun h => ?_))
      exact hK _ _ ⟨rfl, rfl⟩
    · have e : numR m ⟨l, bad⟩ = (n, ⟨l.drop k, bad⟩) := by unfold numR; simp only [hr, hc, if_false]
      have hc' : ¬ (m : Int) < n := by omega
      have s0 := fun J => slice_enc (H := J) (E := Enc.u8) (xs := l) (l := k) (u := l.length) (lo := some (.int .i64 k)) (hi := none) se30 (abound_nat k rfl) rfl (by omega) (by omega)
      simp only [List.take_length] at s0
      rw [e] at hK
      refine WC_of_body hT Try.func53 rfl (by simp [Try.f53]) (by simp [Try.f53]) (wx_sound hT _ ?_)
      simp only [Try.f53]
      repeat' (first | simp only [go_sem, Nat.reduceLT, Nat.reduceEqDiff, Nat.reduceAdd, Nat.reduceMul, Nat.reduceSub, Nat.reduceLeDiff, Int.reduceToNat, Int.reduceNeg, Int.reduceLT, Int.reduceLE, Int.reduceEq, reduceCtorEq, Int.natCast_zero, Int.natCast_one, Int.cast_ofNat_Int, Bool.not_not, false_eq_decide, true_eq_decide, hread0, hreadk, read_cons0, read_consk, astore_h0, astore_hk, hget0, hgetk, hset0, hsetk, hlen, hcat, Nat.add_assoc, Nat.add_zero, Nat.zero_add, List.length_append, and_true, true_and, AV.flat, hb, get_app hb, read_get hb, read_app hb, astore_get hb, astore_app hb, get_set hb, get_set_app hb, read_set hb, read_set_app hb, astore_set hb, astore_set_app hb, List.set_set, hget0s, hgetks, hread0s, hreadks, List.length_set, *, -hK, -rp] | refine WC.call (rp _) ?_ | with_reducible refine IfB_dec (fun h => ?_) (fun h => ?_) | with_reducible refine Guard_dec (fun h => ?_) (fun h => ?_) | with_reducible refine Guard_ndec (fun h => ?_) (fun h => ?_) | with_reducible refine Guard_not (fun h => ?_) (fun h => ?_) | with_reducible refine IfB_ndec (fun h => ?_) (fun h => ?_) | with_reducible refine IfB_not (fun h => ?_) (fun h => ?_) | with_reducible refine Guard_split (fun h => ?_) (fun h => ?_) | with_reducible refine IfB_split (fun h => ?_) (fun h => ?_))
      exact hK _ _ ⟨rfl, rfl⟩
theorem Text_spec (p : Nat) (l : List UInt8) (bad : Bool) (hl : l.length ≤ 140737488355328) (H : Heap) (hb : H[p]? = some ⟨[Enc.u8.lst l, .bool bad], 0, .full⟩) :
    WC Try.prog 54 [.ptr p 0] H fun r H' => r = .str (textS ⟨l, bad⟩).1 ∧ H' = List.set H p (textS ⟨l, bad⟩).2.blk := by
  refine WC_of_K fun K hK => ?_
  have rp := fun J => refReadP l hl J
  have se := fun (H : Heap) (l : List UInt8) => str_enc (T := T) (H := H) (l := l) se30 tk9 tk5
  cases hr : rd 0 l with
  | none =>
    have e : textS ⟨l, bad⟩ = ([], ⟨l, true⟩) := by unfold textS cutL; simp only [hr]
    rw [e] at hK
    rw [hr] at rp
    unfold rdV at rp
    refine WC_of_body hT Try.func54 rfl (by simp [Try.f54]) (by simp [Try.f54]) (wx_sound hT _ ?_)
    simp only [Try.f54]
    repeat' (first | simp only [go_sem, Nat.reduceLT, Nat.reduceEqDiff, Nat.reduceAdd, Nat.reduceMul, Nat.reduceSub, Nat.reduceLeDiff, Int.reduceToNat, Int.reduceNeg, Int.reduceLT, Int.reduceLE, Int.reduceEq, reduceCtorEq, Int.natCast_zero, Int.natCast_one, Int.cast_ofNat_Int, Bool.not_not, false_eq_decide, true_eq_decide, hread0, hreadk, read_cons0, read_consk, astore_h0, astore_hk, hget0, hgetk, hset0, hsetk, hlen, hcat, Nat.add_assoc, Nat.add_zero, Nat.zero_add, List.length_append, and_true, true_and, AV.flat, hb, get_app hb, read_get hb, read_app hb, astore_get hb, astore_app hb, get_set hb, get_set_app hb, read_set hb, read_set_app hb, astore_set hb, astore_set_app hb, List.set_set, hget0s, hgetks, hread0s, hreadks, List.length_set, *, -hK, -rp] | refine WC.call (rp _) ?_ | with_reducible refine IfB_dec (fun h => ?_) (fun h => ?_) | with_reducible refine Guard_dec (fun h => ?_) (fun h => ?_) | with_reducible refine Guard_ndec (fun h => ?_) (fun h => ?_) | with_reducible refine Guard_not (fun h => ?_) (fun h => ?_) | with_reducible refine IfB_ndec (fun h => ?_) (fun h => ?_) | with_reducible refine IfB_not (fun h => ?_) (fun h => ?_) | with_reducible refine Guard_split (fun h => ?_) (fun h => ?_) | with_reducible refine IfB_split (fun h => ?_) (fun h => ?_))
    exact hK _ _ ⟨rfl, rfl⟩
  | some q =>
    obtain ⟨n, k⟩ := q
    have h64 := rd_lt64 hr
    have hk := rd_len l 0 hr
    simp only at h64 hk
    rw [hr] at rp
    unfold rdV at rp
    have e1 : IntKind.u64.wrap (IntKind.i64.wrap ((l.length : Int) - k)) = ((l.length - k : Nat) : Int) := by
      rw [IntKind.wrap_i64, IntKind.wrap_u64]; omega
    by_cases hc : n ≤ l.length - k
    · have e : textS ⟨l, bad⟩ = ((l.drop k).take n, ⟨l.drop (k + n), bad⟩) := by unfold textS cutL; simp only [hr, hc, if_true]
      have hc' : ¬ ((l.length - k : Nat) : Int) < n := by omega
      have e2 : IntKind.i64.wrap ((k : Int) + IntKind.i64.wrap n) = ((k + n : Nat) : Int) := by
        rw [IntKind.wrap_i64, IntKind.wrap_i64]; omega
      have s1 := fun J => slice_enc (H := J) (E := Enc.u8) (xs := l) (l := k) (u := k + n) (lo := some (.int .i64 k)) (hi := some (.int .i64 ((k + n : Nat) : Int))) se30 (abound_nat k rfl) (abound_nat (k + n) rfl) (by omega) (by omega)
      have s3 := fun J => slice_enc (H := J) (E := Enc.u8) (xs := l) (l := k + n) (u := l.length) (lo := some (.int .i64 ((k + n : Nat) : Int))) (hi := none) se30 (abound_nat (k + n) rfl) rfl (by omega) (by omega)
      simp only [List.take_length] at s3
      have e5 : (l.take (k + n)).drop k = (l.drop k).take n := by rw [List.drop_take, Nat.add_sub_cancel_left]
      rw [e5] at s1
      rw [e] at hK
      refine WC_of_body hT Try.func54 rfl (by simp [Try.f54]) (by simp [Try.f54]) (wx_sound hT _ ?_)
      simp only [Try.f54]
      repeat' (first | simp only [go_sem, Nat.reduceLT, Nat.reduceEqDiff, Nat.reduceAdd, Nat.reduceMul, Nat.reduceSub, Nat.reduceLeDiff, Int.reduceToNat, Int.reduceNeg, Int.reduceLT, Int.reduceLE, Int.reduceEq, reduceCtorEq, Int.natCast_zero, Int.natCast_one, Int.cast_ofNat_Int, Bool.not_not, false_eq_decide, true_eq_decide, hread0, hreadk, read_cons0, read_consk, astore_h0, astore_hk, hget0, hgetk, hset0, hsetk, hlen, hcat, Nat.add_assoc, Nat.add_zero, Nat.zero_add, List.length_append, and_true, true_and, AV.flat, hb, get_app hb, read_get hb, read_app hb, astore_get hb, astore_app hb, get_set hb, get_set_app hb, read_set hb, read_set_app hb, astore_set hb, astore_set_app hb, List.set_set, hget0s, hgetks, hread0s, hreadks, List.length_set, *, -hK, -rp, -e5] | refine WC.call (rp _) ?_ | with_reducible refine IfB_dec (fun h => ?_) (fun h => ?_) | with_reducible refine Guard_dec (fun h => ?_) (fun h => ?_) | with_reducible refine Guard_ndec (fun h => ?_) (fun h => ?_) | with_reducible refine Guard_not (fun h => ?_) (fun h => ?_) | with_reducible refine IfB_ndec (fun h => ?_) (fun h => ?_) | with_reducible refine IfB_not (fun h => ?_) (fun h => ?_) | with_reducible refine Guard_split (fun h => ?_) (fun h => ?_) | with_reducible refine IfB_split (fun h => ?_) (fun h => ?_))
      exact hK _ _ ⟨rfl, rfl⟩
    · have e : textS ⟨l, bad⟩ = ([], ⟨l, true⟩) := by unfold textS cutL; simp only [hr, hc, if_false]
      have hc' : ((l.length - k : Nat) : Int) < n := by omega
      rw [e] at hK
      refine WC_of_body hT Try.func54 rfl (by simp [Try.f54]) (by simp [Try.f54]) (wx_sound hT _ ?_)
      simp only [Try.f54]
      repeat' (first | simp only [go_sem, Nat.reduceLT, Nat.reduceEqDiff, Nat.reduceAdd, Nat.reduceMul, Nat.reduceSub, Nat.reduceLeDiff, Int.reduceToNat, Int.reduceNeg, Int.reduceLT, Int.reduceLE, Int.reduceEq, reduceCtorEq, Int.natCast_zero, Int.natCast_one, Int.cast_ofNat_Int, Bool.not_not, false_eq_decide, true_eq_decide, hread0, hreadk, read_cons0, read_consk, astore_h0, astore_hk, hget0, hgetk, hset0, hsetk, hlen, hcat, Nat.add_assoc, Nat.add_zero, Nat.zero_add, List.length_append, and_true, true_and, AV.flat, hb, get_app hb, read_get hb, read_app hb, astore_get hb, astore_app hb, get_set hb, get_set_app hb, read_set hb, read_set_app hb, astore_set hb, astore_set_app hb, List.set_set, hget0s, hgetks, hread0s, hreadks, List.length_set, *, -hK, -rp] | refine WC.call (rp _) ?_ | with_reducible refine IfB_dec (fun h => ?_) (fun h => ?_) | with_reducible refine Guard_dec (fun h => ?_) (fun h => ?_) | with_reducible refine Guard_ndec (fun h => ?_) (fun h => ?_) | with_reducible refine Guard_not (fun h => ?_) (fun h => ?_) | with_reducible refine IfB_ndec (fun h => ?_) (fun h => ?_) | with_reducible refine IfB_not (fun h => ?_) (fun h => ?_) | with_reducible refine Guard_split (fun h => ?_) (fun h => ?_) | with_reducible refine IfB_split (fun h => ?_) (fun h => ?_))
      exact hK _ _ ⟨rfl, rfl⟩
theorem Byte_spec (p : Nat) (l : List UInt8) (bad : Bool) (hl : l.length ≤ 140737488355328) (H : Heap) (hb : H[p]? = some ⟨[Enc.u8.lst l, .bool bad], 0, .full⟩) :
    WC Try.prog 52 [.ptr p 0] H fun r H' => r = .int .u8 (byteS ⟨l, bad⟩).1.toNat ∧ H' = List.set H p (byteS ⟨l, bad⟩).2.blk := by
  refine WC_of_K fun K hK => ?_
  cases l with
  | nil =>
    have e : byteS ⟨[], bad⟩ = (0, ⟨[], true⟩) := rfl
    rw [e] at hK
    refine WC_of_body hT Try.func52 rfl (by simp [Try.f52]) (by simp [Try.f52]) (wx_sound hT _ ?_)
    simp only [Try.f52]
    repeat' (first | simp only [go_sem, Nat.reduceLT, Nat.reduceEqDiff, Nat.reduceAdd, Nat.reduceMul, Nat.reduceSub, Nat.reduceLeDiff, Int.reduceToNat, Int.reduceNeg, Int.reduceLT, Int.reduceLE, Int.reduceEq, reduceCtorEq, Int.natCast_zero, Int.natCast_one, Int.cast_ofNat_Int, Bool.not_not, false_eq_decide, true_eq_decide, hread0, hreadk, read_cons0, read_consk, astore_h0, astore_hk, hget0, hgetk, hset0, hsetk, hlen, hcat, Nat.add_assoc, Nat.add_zero, Nat.zero_add, List.length_append, and_true, true_and, AV.flat, hb, get_app hb, read_get hb, read_app hb, astore_get hb, astore_app hb, get_set hb, get_set_app hb, read_set hb, read_set_app hb, astore_set hb, astore_set_app hb, List.set_set, hget0s, hgetks, hread0s, hreadks, List.length_set, *, -hK] | with_reducible refine IfB_dec (fun h => ?_) (fun h => ?_) | with_reducible refine Guard_dec (fun h => ?_) (fun h => ?_) | with_reducible refine Guard_ndec (fun h => ?_) (fun h => ?_) | with_reducible refine Guard_not (fun h => ?_) (fun h => ?_) | with_reducible refine IfB_ndec (fun h => ?_) (fun h => ?_) | with_reducible refine IfB_not (fun h => ?_) (fun h => ?_) | with_reducible refine Guard_split (fun h => ?_) (fun h => ?_) | with_reducible refine IfB_split (fun h => ?_) (fun h => ?_))
    exact hK _ _ ⟨rfl, rfl⟩
  | cons x l =>
    have e : byteS ⟨x :: l, bad⟩ = (x, ⟨l, bad⟩) := rfl
    rw [e] at hK
    have hn : ¬ ((x :: l).length : Int) = 0 := by simp; omega
    have e1 : aindexAddr T 30 (Enc.u8.lst (x :: l)) (.int .i64 0) = some (.cptr (Enc.u8.cells x)) := at_enc (E := Enc.u8) (T := T) (xs := x :: l) se30 (i := 0) (by simp) (k := .i64) (z := 0) rfl
    have s0 : ∀ J, aslice T J 30 (Enc.u8.lst (x :: l)) (some (.int .i64 1)) none none = some (Enc.u8.lst l) := fun J => by
      have := slice_enc (H := J) (E := Enc.u8) (xs := x :: l) (l := 1) (u := (x :: l).length) (lo := some (.int .i64 1)) (hi := none) se30 (abound_nat 1 rfl) rfl (by simp) (by simp)
      rw [List.take_length] at this
      exact this
    generalize hg : (x :: l) = xl at *
    refine WC_of_body hT Try.func52 rfl (by simp [Try.f52]) (by simp [Try.f52]) (wx_sound hT _ ?_)
    simp only [Try.f52]
    repeat' (first | simp only [go_sem, Nat.reduceLT, Nat.reduceEqDiff, Nat.reduceAdd, Nat.reduceMul, Nat.reduceSub, Nat.reduceLeDiff, Int.reduceToNat, Int.reduceNeg, Int.reduceLT, Int.reduceLE, Int.reduceEq, reduceCtorEq, Int.natCast_zero, Int.natCast_one, Int.cast_ofNat_Int, Bool.not_not, false_eq_decide, true_eq_decide, hread0, hreadk, read_cons0, read_consk, astore_h0, astore_hk, hget0, hgetk, hset0, hsetk, hlen, hcat, Nat.add_assoc, Nat.add_zero, Nat.zero_add, List.length_append, and_true, true_and, AV.flat, hb, get_app hb, read_get hb, read_app hb, astore_get hb, astore_app hb, get_set hb, get_set_app hb, read_set hb, read_set_app hb, astore_set hb, astore_set_app hb, List.set_set, hget0s, hgetks, hread0s, hreadks, List.length_set, u8_cells, *, -hK, -hg] | with_reducible refine IfB_dec (fun h => ?_) (fun h => ?_) | with_reducible refine Guard_dec (fun h => ?_) (fun h => ?_) | with_reducible refine Guard_ndec (fun h => ?_) (fun h => ?_) | with_reducible refine Guard_not (fun h => ?_) (fun h => ?_) | with_reducible refine IfB_ndec (fun h => ?_) (fun h => ?_) | with_reducible refine IfB_not (fun h => ?_) (fun h => ?_) | with_reducible refine Guard_split (fun h => ?_) (fun h => ?_) | with_reducible refine IfB_split (fun h => ?_) (fun h => ?_))
    exact hK _ _ ⟨rfl, rfl⟩
open Go Go.Proofs Go.Proofs.PI
/-! ### commands are read -/
def keysGo (stop : Bool) : Nat → RS → List (List UInt8) → List (List UInt8) × RS
  | 0, s, acc => (acc, s)
  | n + 1, s, acc => if stop = true ∧ s.bad = true then (acc, s) else keysGo stop n (textS s).2 (acc ++ [(textS s).1])
def cmdG (num : Nat → RS → Nat × RS) (wide : RS → Nat × RS) (stop : Bool) (b : List UInt8) : Cmd × RS :=
  let k := byteS ⟨b, false⟩; let t := num 4 k.2; let n := num 8 t.2; let ks := keysGo stop n.1 n.2 []; let v := textS ks.2
  let f := num 4294967295 v.2; let d := num 1099511627776 f.2; let u := wide d.2; let y := wide u.2
  (⟨k.1.toNat, t.1, ks.1, v.1, f.1, d.1, u.1, y.1⟩, y.2)
theorem keysGo_enc {stop : Bool} (r : List UInt8) : ∀ (l acc : List (List UInt8)), (∀ k ∈ l, k.length ≤ 32) → keysGo stop l.length ⟨textsL l ++ r, false⟩ acc = (acc ++ l, ⟨r, false⟩)
  | [], acc, _ => by simp [keysGo, textsL]
  | k :: l, acc, h => by
    have e : textsL (k :: l) = textL k ++ textsL l := rfl
    rw [List.length_cons, keysGo, if_neg (by simp), e, List.append_assoc, textS_enc (by have := h k (.head _); omega)]
    simp only
    rw [keysGo_enc r l _ fun x hx => h x (.tail _ hx), List.append_assoc]; rfl
theorem keysGo_len {stop : Bool} : ∀ (n : Nat) (s : RS) (acc : List (List UInt8)), (keysGo stop n s acc).1.length ≤ acc.length + n ∧ (keysGo stop n s acc).2.l.length ≤ s.l.length
  | 0, s, acc => by simp [keysGo]
  | n + 1, s, acc => by
    rw [keysGo]
    split
    · simp
    · obtain ⟨h1, h2⟩ := keysGo_len (stop := stop) n (textS s).2 (acc ++ [(textS s).1])
      have := (textS_len s).2
      simp only [List.length_append, List.length_singleton] at h1
      omega
theorem shaped_facts {c : Cmd} (h : shapedB c = true) : (∀ k ∈ c.keys, k.length ≤ 32) ∧ 1 ≤ c.kind ∧ c.kind ≤ 11 ∧ 0 ≤ c.ten ∧ c.ten < 4 ∧ c.keys.length ≤ 8 ∧ c.val.length ≤ 512 ∧ 0 ≤ c.for_ ∧ c.for_ ≤ 1099511627776 := by
  simp only [shapedB, Bool.and_eq_true, decide_eq_true_eq, List.all_eq_true] at h
  refine ⟨fun k hk => ?_, h.2⟩
  have := h.1 k hk
  simp only [keyB, decide_eq_true_eq] at this
  exact this.2
theorem cmdL_eq {c : Cmd} (ho : c.Ok) (h : shapedB c = true) : cmdL c = UInt8.ofNat c.kind.toNat :: (small c.ten.toNat ++ (small c.keys.length ++ (textsL c.keys ++ (textL c.val ++ (small c.flags.toNat ++ (small c.for_.toNat ++ (small c.uniq.toNat ++ small c.by_.toNat))))))) := by
  obtain ⟨_, h1, h2, h3, h4, h5, h6, h7, h8⟩ := shaped_facts h
  have hf := ho.flags
  simp only [cmdL, numsL, List.flatMap_cons, List.flatMap_nil, List.append_nil, List.cons_append, List.nil_append, List.append_assoc]
  rw [u64w_id h3 (by omega), u64w_id (show (0 : Int) ≤ (c.keys.length : Int) by omega) (by omega), u64w_id hf.1 (by omega), u64w_id h7 (by omega)]
  simp [textsL]
theorem cmdG_enc {num : Nat → RS → Nat × RS} {wide : RS → Nat × RS} (hn : NumOk num wide) {stop : Bool} {c : Cmd} (ho : c.Ok) (h : shapedB c = true) : cmdG num wide stop (cmdL c) = (c, ⟨[], false⟩) := by
  obtain ⟨h0, h1, h2, h3, h4, h5, h6, h7, h8⟩ := shaped_facts h
  have hk := kbyte ho.kind
  have hf := ho.flags
  have hu := ho.uniq
  have hb := ho.by_
  rw [cmdL_eq ho h]
  unfold cmdG
  simp only [byteS_enc]
  rw [hn.enc _ _ _ _ (by omega) (by omega)]
  simp only
  rw [hn.enc _ _ _ _ (by omega) (by omega)]
  simp only
  rw [keysGo_enc _ _ _ h0]
  simp only
  rw [textS_enc (by omega)]
  simp only
  rw [hn.enc _ _ _ _ (by omega) (by omega)]
  simp only
  rw [hn.enc _ _ _ _ (by omega) (by omega)]
  simp only
  rw [hn.wenc _ _ _ (by omega)]
  simp only
  rw [← List.append_nil (small c.by_.toNat), hn.wenc _ _ _ (by omega)]
  simp only [hk, List.nil_append]
  obtain ⟨kind, ten, keys, val, flags, for_, uniq, by_⟩ := c
  simp only at *
  congr 1
  simp only [Cmd.mk.injEq, true_and]
  omega
def CmdOf (b : List UInt8) (c : Cmd) : Prop := c.Ok ∧ commandL c = (b, 0)
theorem cmdOf_enc {num : Nat → RS → Nat × RS} {wide : RS → Nat × RS} (hn : NumOk num wide) {stop : Bool} {b : List UInt8} {c : Cmd} (h : CmdOf b c) : cmdG num wide stop b = (c, ⟨[], false⟩) := by
  obtain ⟨h1, h2⟩ := h
  unfold commandL at h2
  split at h2
  · rename_i hs
    simp only [Prod.mk.injEq, and_true] at h2
    rw [← h2]; exact cmdG_enc hn h1 hs
  · simp at h2
open Classical in
noncomputable def ofCommandL (b : List UInt8) : Cmd × Int := if h : ∃ c, CmdOf b c then (Classical.choose h, 0) else (cmd0, 8)
theorem ofCommandL_some {b : List UInt8} {c : Cmd} (h : CmdOf b c) : ofCommandL b = (c, 0) := by
  unfold ofCommandL
  rw [dif_pos ⟨c, h⟩]
  have h1 := cmdOf_enc numS_ok (stop := false) h
  have h2 := cmdOf_enc numS_ok (stop := false) (Classical.choose_spec (⟨c, h⟩ : ∃ c, CmdOf b c))
  rw [h1] at h2
  have h3 : c = Classical.choose (⟨c, h⟩ : ∃ c, CmdOf b c) := congrArg Prod.fst h2
  rw [← h3]
theorem ofCommandL_e {b : List UInt8} (h : (ofCommandL b).2 = 0) : CmdOf b (ofCommandL b).1 := by
  unfold ofCommandL at h ⊢
  split
  · rename_i h; exact Classical.choose_spec h
  · rename_i h'; rw [dif_neg h'] at h; simp at h
theorem ofCommandL_or (b : List UInt8) : (ofCommandL b).2 = 0 ∨ ofCommandL b = (cmd0, 8) := by
  unfold ofCommandL; split
  · exact .inl rfl
  · exact .inr rfl
theorem cmdG_ok {num : Nat → RS → Nat × RS} {wide : RS → Nat × RS} (hn : NumOk num wide) (stop : Bool) (b : List UInt8) : (cmdG num wide stop b).1.Ok := by
  unfold cmdG
  simp only
  refine ⟨?_, ?_, ?_, ?_⟩
  · have := (byteS ⟨b, false⟩).1.toNat_lt
    simp only; omega
  · have := hn.le 4294967295 (textS (keysGo stop (num 8 (num 4 (byteS ⟨b, false⟩).2).2).1 (num 8 (num 4 (byteS ⟨b, false⟩).2).2).2 []).2).2
    simp only; omega
  all_goals
    simp only
    generalize num 1099511627776 _ = q
    have h1 := hn.wlt q.2
    have h2 := hn.wlt (wide q.2).2
    omega
theorem ofCommand_res {num : Nat → RS → Nat × RS} {wide : RS → Nat × RS} (hn : NumOk num wide) {stop : Bool} {b : List UInt8} :
    (¬ ((cmdG num wide stop b).2.bad = false ∧ (commandL (cmdG num wide stop b).1).2 = 0 ∧ (commandL (cmdG num wide stop b).1).1 = b) → ofCommandL b = (cmd0, 8)) ∧
    ((cmdG num wide stop b).2.bad = false → (commandL (cmdG num wide stop b).1).2 = 0 → (commandL (cmdG num wide stop b).1).1 = b → ofCommandL b = ((cmdG num wide stop b).1, 0)) := by
  refine ⟨fun h => ?_, fun h1 h2 h3 => ofCommandL_some ⟨cmdG_ok hn stop b, Prod.ext h3 h2⟩⟩
  rcases ofCommandL_or b with h0 | h0
  · have hc := ofCommandL_e h0
    have he := cmdOf_enc hn (stop := stop) hc
    rw [he, hc.2] at h
    exact absurd ⟨rfl, rfl, rfl⟩ h
  · exact h0
theorem bytesEqual_spec (a b : List UInt8) (H : Heap) : WC Try.prog 51 [Enc.u8.lst a, Enc.u8.lst b] H fun r H' => r = .bool (decide (a = b)) ∧ H' = H := by
  refine WC_of_K fun K hK => ?_
  have se := fun (H : Heap) (l : List UInt8) => str_enc (T := T) (H := H) (l := l) se30 tk9 tk5
  refine WC_of_body hT Try.func51 rfl (by simp [Try.f51]) (by simp [Try.f51]) (wx_sound hT _ ?_)
  simp only [Try.f51]
  repeat' (first | simp only [go_sem, Nat.reduceLT, Nat.reduceEqDiff, Nat.reduceAdd, Nat.reduceMul, Nat.reduceSub, Nat.reduceLeDiff, Int.reduceToNat, Int.reduceNeg, Int.reduceLT, Int.reduceLE, Int.reduceEq, reduceCtorEq, Int.natCast_zero, Int.natCast_one, Int.cast_ofNat_Int, Bool.not_not, false_eq_decide, true_eq_decide, hread0, hreadk, read_cons0, read_consk, astore_h0, astore_hk, hget0, hgetk, hset0, hsetk, hlen, hcat, Nat.add_assoc, Nat.add_zero, Nat.zero_add, List.length_append, and_true, true_and, AV.flat, *, -hK] | with_reducible refine IfB_dec (fun h => ?_) (fun h => ?_) | with_reducible refine Guard_dec (fun h => ?_) (fun h => ?_) | with_reducible refine Guard_ndec (fun h => ?_) (fun h => ?_) | with_reducible refine Guard_not (fun h => ?_) (fun h => ?_) | with_reducible refine IfB_ndec (fun h => ?_) (fun h => ?_) | with_reducible refine IfB_not (fun h => ?_) (fun h => ?_) | with_reducible refine Guard_split (fun h => ?_) (fun h => ?_) | with_reducible refine IfB_split (fun h => ?_) (fun h => ?_))
  exact hK _ _ ⟨rfl, rfl⟩
theorem Keep.of_set {H G : Heap} {p : Nat} {B : Blk} (h : G = List.set H p B) : Keep (some p) H G := by
  subst h
  exact ⟨by simp, fun b hb hp => List.getElem?_set_ne fun e => hp (by rw [e])⟩
theorem keysGo_false (i : Nat) : ∀ (s : RS) (acc : List (List UInt8)), keysGo false (i + 1) s acc = ((keysGo false i s acc).1 ++ [(textS (keysGo false i s acc).2).1], (textS (keysGo false i s acc).2).2) := by
  induction i with
  | zero => intro s acc; simp [keysGo]
  | succ i ih => intro s acc; rw [keysGo, if_neg (by simp), ih]; rw [keysGo, if_neg (by simp)]
theorem ofCommand_spec (b : List UInt8) (hl : b.length ≤ 140737488355328) (H : Heap) : WC Try.prog 26 [Enc.u8.lst b] H fun r H' => r = .tup [(ofCommandL b).1.av, .int .i64 (ofCommandL b).2] ∧ H' = H := by
  refine WC_val fun K hK => ?_
  have hres := ofCommand_res numS_ok (stop := false) (b := b)
  have hok := cmdG_ok numS_ok false b
  unfold cmdG at hres hok
  simp only at hres hok
  obtain ⟨k0, s1, hk0⟩ : ∃ x s, byteS ⟨b, false⟩ = (x, s) := ⟨_, _, rfl⟩
  have lk0 := byteS_len ⟨b, false⟩
  rw [hk0] at hres hok lk0
  obtain ⟨t0, s2, ht0⟩ : ∃ x s, numS 4 s1 = (x, s) := ⟨_, _, rfl⟩
  have lt0 := numS_len 4 s1
  simp only at hres hok lk0
  rw [ht0] at hres hok lt0
  obtain ⟨n0, s3, hn0⟩ : ∃ x s, numS 8 s2 = (x, s) := ⟨_, _, rfl⟩
  have ln0 := numS_len 8 s2
  have hn8 := numS_le 8 s2
  simp only at hres hok lt0
  rw [hn0] at hres hok ln0 hn8
  simp only at hres hok ln0 hn8
  have b1 := fun (L : Heap) (hb : L[1]? = some ⟨[Enc.u8.lst b, .bool false], 0, .full⟩) => rbyte_spec (H.length + 1) b false hl (H ++ L) (by rw [hgetk]; exact hb)
  have b2 := fun (L : Heap) (hb : L[1]? = some ⟨[Enc.u8.lst s1.l, .bool s1.bad], 0, .full⟩) => num_spec (H.length + 1) 4 (by omega) s1.l s1.bad (by omega) (H ++ L) (by rw [hgetk]; exact hb)
  have b3 := fun (L : Heap) (hb : L[1]? = some ⟨[Enc.u8.lst s2.l, .bool s2.bad], 0, .full⟩) => num_spec (H.length + 1) 8 (by omega) s2.l s2.bad (by omega) (H ++ L) (by rw [hgetk]; exact hb)
  rw [hk0] at b1
  rw [show (⟨s1.l, s1.bad⟩ : RS) = s1 from rfl, ht0] at b2
  rw [show (⟨s2.l, s2.bad⟩ : RS) = s2 from rfl, hn0] at b3
  simp only [RS.blk, Int.cast_ofNat_Int] at b1 b2 b3
  refine WC_of_body hT Try.func26 rfl (by simp [Try.f26]) (by simp [Try.f26]) (wx_sound hT _ ?_)
  simp only [Try.f26]
  repeat' (first | simp only [go_sem, Nat.reduceLT, Nat.reduceEqDiff, Nat.reduceAdd, Nat.reduceMul, Nat.reduceSub, Nat.reduceLeDiff, Int.reduceToNat, Int.reduceNeg, Int.reduceLT, Int.reduceLE, Int.reduceEq, reduceCtorEq, Int.natCast_zero, Int.natCast_one, Int.cast_ofNat_Int, Bool.not_not, false_eq_decide, true_eq_decide, hread0, hreadk, read_cons0, read_consk, astore_h0, astore_hk, hget0, hgetk, hset0, hsetk, hlen, hcat, Nat.add_assoc, Nat.add_zero, Nat.zero_add, List.length_append, and_true, true_and, AV.flat, *, -hK, -b1, -b2, -b3, -hk0, -ht0, -hn0, -hres] | refine WC.call (b1 _ rfl) ?_ | refine WC.call (b2 _ rfl) ?_ | refine WC.call (b3 _ rfl) ?_ | with_reducible refine IfB_dec (fun h => ?_) (fun h => ?_) | with_reducible refine Guard_dec (fun h => ?_) (fun h => ?_) | with_reducible refine Guard_ndec (fun h => ?_) (fun h => ?_) | with_reducible refine Guard_not (fun h => ?_) (fun h => ?_) | with_reducible refine IfB_ndec (fun h => ?_) (fun h => ?_) | with_reducible refine IfB_not (fun h => ?_) (fun h => ?_) | with_reducible refine Guard_split (fun h => ?_) (fun h => ?_) | with_reducible refine IfB_split (fun h => ?_) (fun h => ?_))
  clear b1 b2 b3
  have hk1 : (keysGo false n0 s3 []).1.length ≤ 8 := by have := (keysGo_len (stop := false) n0 s3 []).1; simp at this; omega
  refine WX_loopS [0, 2, 4, 5, 17] (fun k fr' H' => ∃ (i : Nat) (v : AV), k = n0 - i ∧ i ≤ n0 ∧ fr'.get 18 = .int .i64 i ∧ H'[H.length]? = some ⟨[.int .u8 0, .int .i64 0, .nils, .str [], .int .u32 0, .int .i64 0, .int .u64 0, .int .u64 0], 0, .full⟩ ∧
    H'[H.length + 1]? = some (keysGo false i s3 []).2.blk ∧ H'[H.length + 2]? = some ⟨[.int .u8 k0.toNat, .int .i64 t0, v, .str [], .int .u32 0, .int .i64 0, .int .u64 0, .int .u64 0], 0, .full⟩ ∧
    OwnE Enc.str (H.length + 3) H' v (keysGo false i s3 []).1 ∧ Keep none H H') n0 ⟨0, .nils, rfl, by omega, by simp only [go_sem, Nat.reduceLT, Nat.reduceEqDiff, Nat.reduceAdd, Nat.reduceMul, Nat.reduceSub, Nat.reduceLeDiff, Int.reduceToNat, Int.reduceNeg, Int.reduceLT, Int.reduceLE, Int.reduceEq, reduceCtorEq]; rfl, by rw [hget0]; rfl, by rw [hgetk]; rfl, by rw [hgetk]; rfl, OwnE.nils _ _ _, Keep.app _ _ _⟩ ?_
  rintro k fr' H' A R hA hs hg hR ⟨i, v, rfl, hi, f18, hz, hr, hc, ov, kk⟩
  have s0 := hg 0 (by decide)
  have s2 := hg 2 (by decide)
  have s4 := hg 4 (by decide)
  have s5 := hg 5 (by decide)
  have s17 := hg 17 (by decide)
  simp only [Fr.get_put, Fr.get_init, List.getD_cons_zero, List.getD_cons_succ, Nat.reduceEqDiff, if_true, if_false] at s0 s2 s4 s5 s17
  have hkl := keysGo_len (stop := false) i s3 []
  have hks := keysGo_false i s3 []
  have hv := ov.one
  have hvb : ∀ b, v.blk = some b → H.length + 3 ≤ b ∧ b < H'.length := fun b hb => ⟨ov.ge hb, ov.lt hb⟩
  have hH : H.length + 3 ≤ H'.length := by have := (List.getElem?_eq_some_iff.1 hc).1; omega
  by_cases hlt : i < n0
  · generalize hq : keysGo false i s3 [] = q at *
    obtain ⟨ks, s⟩ := q
    simp only [RS.blk, List.length_nil, Nat.zero_add] at hr hkl hks ov
    refine wx_sound hT _ ?_
    have h1 : (i : Int) < n0 := by omega
    have e3 := inc_id hlt (show n0 ≤ 140737488355328 by omega)
    repeat' (first | simp only [go_sem, Nat.reduceLT, Nat.reduceEqDiff, Nat.reduceAdd, Nat.reduceMul, Nat.reduceSub, Nat.reduceLeDiff, Int.reduceToNat, Int.reduceNeg, Int.reduceLT, Int.reduceLE, Int.reduceEq, reduceCtorEq, Int.natCast_zero, Int.natCast_one, Int.cast_ofNat_Int, Bool.not_not, false_eq_decide, true_eq_decide, hread0, hreadk, read_cons0, read_consk, astore_h0, astore_hk, hget0, hgetk, hset0, hsetk, hlen, hcat, Nat.add_assoc, Nat.add_zero, Nat.zero_add, List.length_append, and_true, true_and, AV.flat, hc, get_app hc, read_get hc, read_app hc, hr, get_app hr, read_get hr, read_app hr, hv, one_solid hv, one_cells hv, *, -hK, -hq, -hks, -hk0, -ht0, -hn0, -hres] | with_reducible refine IfB_dec (fun h => ?_) (fun h => ?_) | with_reducible refine Guard_dec (fun h => ?_) (fun h => ?_) | with_reducible refine Guard_ndec (fun h => ?_) (fun h => ?_) | with_reducible refine Guard_not (fun h => ?_) (fun h => ?_) | with_reducible refine IfB_ndec (fun h => ?_) (fun h => ?_) | with_reducible refine IfB_not (fun h => ?_) (fun h => ?_) | with_reducible refine Guard_split (fun h => ?_) (fun h => ?_) | with_reducible refine IfB_split (fun h => ?_) (fun h => ?_))
    refine WX_rows hT hmix [(0, none), (1, none), (2, none), (3, some [true, false, false]), (4, none), (5, some [true, true, true, true, true]), (6, none), (7, some [true, true, true, true, true, true, true])] (by kernel_rfl) ?_
    repeat' (first | simp only [go_sem, Nat.reduceLT, Nat.reduceEqDiff, Nat.reduceAdd, Nat.reduceMul, Nat.reduceSub, Nat.reduceLeDiff, Int.reduceToNat, Int.reduceNeg, Int.reduceLT, Int.reduceLE, Int.reduceEq, reduceCtorEq, Int.natCast_zero, Int.natCast_one, Int.cast_ofNat_Int, Bool.not_not, false_eq_decide, true_eq_decide, hread0, hreadk, read_cons0, read_consk, astore_h0, astore_hk, hget0, hgetk, hset0, hsetk, hlen, hcat, Nat.add_assoc, Nat.add_zero, Nat.zero_add, List.length_append, and_true, true_and, AV.flat, hc, get_app hc, read_get hc, read_app hc, hr, get_app hr, read_get hr, read_app hr, hv, one_solid hv, one_cells hv, *, -hK, -hq, -hks, -hk0, -ht0, -hn0, -hres] | with_reducible refine IfB_dec (fun h => ?_) (fun h => ?_) | with_reducible refine Guard_dec (fun h => ?_) (fun h => ?_) | with_reducible refine Guard_ndec (fun h => ?_) (fun h => ?_) | with_reducible refine Guard_not (fun h => ?_) (fun h => ?_) | with_reducible refine IfB_ndec (fun h => ?_) (fun h => ?_) | with_reducible refine IfB_not (fun h => ?_) (fun h => ?_) | with_reducible refine Guard_split (fun h => ?_) (fun h => ?_) | with_reducible refine IfB_split (fun h => ?_) (fun h => ?_))
    refine (rtext_spec (H.length + 1) s.l s.bad (by omega) _ hr).mono ?_
    rintro r G ⟨rfl, hG⟩
    have kG := Keep.of_set hG
    have hlG : G.length = H'.length := by rw [hG, List.length_set]
    have hrG : G[H.length + 1]? = some (textS s).2.blk := by rw [hG]; exact get_set hr _
    have hzG := kG.get hz (by simp)
    have hcG := kG.get hc (by simp)
    have ovG := ov.keep kG (fun b hb e => by cases hb; have := hvb _ e; omega)
    have kkG : Keep none H G := ⟨by omega, fun b hb _ => by rw [kG.at_ b (by omega) (by simp; omega)]; exact kk.at_ b hb (by simp)⟩
    repeat' (first | simp only [go_sem, Nat.reduceLT, Nat.reduceEqDiff, Nat.reduceAdd, Nat.reduceMul, Nat.reduceSub, Nat.reduceLeDiff, Int.reduceToNat, Int.reduceNeg, Int.reduceLT, Int.reduceLE, Int.reduceEq, reduceCtorEq, Int.natCast_zero, Int.natCast_one, Int.cast_ofNat_Int, Bool.not_not, false_eq_decide, true_eq_decide, hread0, hreadk, read_cons0, read_consk, astore_h0, astore_hk, hget0, hgetk, hset0, hsetk, hlen, hcat, Nat.add_assoc, Nat.add_zero, Nat.zero_add, List.length_append, and_true, true_and, AV.flat, hcG, get_app hcG, read_get hcG, read_app hcG, hv, one_solid hv, one_cells hv, *, -hK, -hq, -hks, -hk0, -ht0, -hn0, -hres, -hG, -hlG] | with_reducible refine IfB_dec (fun h => ?_) (fun h => ?_) | with_reducible refine Guard_dec (fun h => ?_) (fun h => ?_) | with_reducible refine Guard_ndec (fun h => ?_) (fun h => ?_) | with_reducible refine Guard_not (fun h => ?_) (fun h => ?_) | with_reducible refine IfB_ndec (fun h => ?_) (fun h => ?_) | with_reducible refine IfB_not (fun h => ?_) (fun h => ?_) | with_reducible refine Guard_split (fun h => ?_) (fun h => ?_) | with_reducible refine IfB_split (fun h => ?_) (fun h => ?_))
    refine append1_enc (E := Enc.str) (m := H.length + 3) (x := (textS s).1) ovG rfl se42 az9 td9 tk42 rfl rfl (by decide) (by show (ks.length + 1) * 17 ≤ _; omega) (by omega) ?_
    intro v' H4 o4 k4 hn4
    have hv4 := o4.one
    have hvb4 : ∀ b, v'.blk = some b → H.length + 3 ≤ b := fun b hb => o4.ge hb
    have hr4 := k4.get hrG (fun e => by have := hvb _ e; omega)
    have hz4 := k4.get hzG (fun e => by have := hvb _ e; omega)
    have hc4 := k4.get hcG (fun e => by have := hvb _ e; omega)
    have kk4 : Keep none H H4 := ⟨by have := k4.len; omega, fun b hb _ => by rw [k4.at_ b (by omega) (fun e => by have := hvb _ e; omega)]; exact kkG.at_ b hb (by simp)⟩
    have hl4 := k4.len
    repeat' (first | simp only [go_sem, Nat.reduceLT, Nat.reduceEqDiff, Nat.reduceAdd, Nat.reduceMul, Nat.reduceSub, Nat.reduceLeDiff, Int.reduceToNat, Int.reduceNeg, Int.reduceLT, Int.reduceLE, Int.reduceEq, reduceCtorEq, Int.natCast_zero, Int.natCast_one, Int.cast_ofNat_Int, Bool.not_not, false_eq_decide, true_eq_decide, hread0, hreadk, read_cons0, read_consk, astore_h0, astore_hk, hget0, hgetk, hset0, hsetk, hlen, hcat, Nat.add_assoc, Nat.add_zero, Nat.zero_add, List.length_append, and_true, true_and, AV.flat, hc4, get_app hc4, read_get hc4, read_app hc4, astore_get hc4, astore_app hc4, get_set hc4, get_set_app hc4, read_set hc4, read_set_app hc4, astore_set hc4, astore_set_app hc4, List.set_set, hget0s, hgetks, hread0s, hreadks, List.length_set, hv4, one_solid hv4, one_cells hv4, *, -hK, -hq, -hks, -hk0, -ht0, -hn0, -hres, -hG, -hlG] | with_reducible refine IfB_dec (fun h => ?_) (fun h => ?_) | with_reducible refine Guard_dec (fun h => ?_) (fun h => ?_) | with_reducible refine Guard_ndec (fun h => ?_) (fun h => ?_) | with_reducible refine Guard_not (fun h => ?_) (fun h => ?_) | with_reducible refine IfB_ndec (fun h => ?_) (fun h => ?_) | with_reducible refine IfB_not (fun h => ?_) (fun h => ?_) | with_reducible refine Guard_split (fun h => ?_) (fun h => ?_) | with_reducible refine IfB_split (fun h => ?_) (fun h => ?_))
    refine hR _ _ (by (repeat (first | exact hs | refine hA _ _ _ (by decide) ?_))) (n0 - (i + 1)) (by omega) ⟨i + 1, v', rfl, by omega, by simp only [go_sem, Nat.reduceLT, Nat.reduceEqDiff, Nat.reduceAdd, Nat.reduceMul, Nat.reduceSub, Nat.reduceLeDiff, Int.reduceToNat, Int.reduceNeg, Int.reduceLT, Int.reduceLE, Int.reduceEq, reduceCtorEq], ?_, ?_, get_set hc4 _, ?_, ?_⟩
    · rw [List.getElem?_set_ne (by omega)]; exact hz4
    · rw [List.getElem?_set_ne (by omega), hks]; exact hr4
    · rw [hks]; exact o4.keep (Keep.of_set rfl) (fun b hb e => by cases hb; have := hvb4 _ e; omega)
    · exact ⟨by rw [List.length_set]; omega, fun b hb _ => by rw [List.getElem?_set_ne (by omega)]; exact kk4.at_ b hb (by simp)⟩
  · obtain rfl : i = n0 := by omega
    obtain ⟨ks, s4, hks4⟩ : ∃ x s, keysGo false i s3 [] = (x, s) := ⟨_, _, rfl⟩
    rw [hks4] at hres hok hr ov hk1 hkl
    simp only [RS.blk] at hres hok hr ov hk1 hkl
    refine WX_freeze (n := ks.length) ov (Enc.row_flat (E := Enc.str) ks) (Enc.row_length ks) (by decide) hc (fun e => by have := hvb _ e; omega) (C := ⟨[.int .u8 k0.toNat, .int .i64 t0, Enc.str.lst ks, .str [], .int .u32 0, .int .i64 0, .int .u64 0, .int .u64 0], 0, .full⟩) rfl rfl ⟨.inl rfl, .inl rfl, .inr ⟨rfl, rfl⟩, .inl rfl, .inl rfl, .inl rfl, .inl rfl, .inl rfl, trivial⟩ ?_
    intro G hlG hcG hoG
    have hrG := hoG (H.length + 1) (fun e => by have := hvb _ e; omega) (by omega)
    have hzG := hoG H.length (fun e => by have := hvb _ e; omega) (by omega)
    rw [hr] at hrG
    rw [hz] at hzG
    have kG : Keep none H G := ⟨by omega, fun b hb _ => by rw [hoG b (fun e => by have := hvb _ e; omega) (by omega)]; exact kk.at_ b hb (by simp)⟩
    clear hoG hr hz hc ov hvb kk hR hs hA hks
    obtain ⟨v0, s5, hv0⟩ : ∃ x s, textS s4 = (x, s) := ⟨_, _, rfl⟩
    have lv0 := textS_len s4
    rw [hv0] at hres hok lv0
    obtain ⟨f0, s6, hf0⟩ : ∃ x s, numS 4294967295 s5 = (x, s) := ⟨_, _, rfl⟩
    have lf0 := numS_len 4294967295 s5
    have mf0 := numS_le 4294967295 s5
    simp only at hres hok lv0
    rw [hf0] at hres hok lf0 mf0
    obtain ⟨d0, s7, hd0⟩ : ∃ x s, numS 1099511627776 s6 = (x, s) := ⟨_, _, rfl⟩
    have ld0 := numS_len 1099511627776 s6
    simp only at hres hok lf0 mf0
    rw [hd0] at hres hok ld0
    obtain ⟨u0, s8, hu0⟩ : ∃ x s, wideS s7 = (x, s) := ⟨_, _, rfl⟩
    have lu0 := wideS_len s7
    simp only at hres hok ld0
    rw [hu0] at hres hok lu0
    obtain ⟨y0, s9, hy0⟩ : ∃ x s, wideS s8 = (x, s) := ⟨_, _, rfl⟩
    simp only at hres hok lu0
    rw [hy0] at hres hok
    simp only at hres hok
    have c1 := rtext_spec (H.length + 1) s4.l s4.bad (by omega) G hrG
    have c2 := num_spec (H.length + 1) 4294967295 (by omega) s5.l s5.bad (by omega) _ (get_set hrG ⟨[Enc.u8.lst s5.l, .bool s5.bad], 0, .full⟩)
    have c3 := num_spec (H.length + 1) 1099511627776 (by omega) s6.l s6.bad (by omega) _ (get_set hrG ⟨[Enc.u8.lst s6.l, .bool s6.bad], 0, .full⟩)
    have c4 := wide_spec (H.length + 1) s7.l s7.bad (by omega) _ (get_set hrG ⟨[Enc.u8.lst s7.l, .bool s7.bad], 0, .full⟩)
    have c5 := wide_spec (H.length + 1) s8.l s8.bad (by omega) _ (get_set hrG ⟨[Enc.u8.lst s8.l, .bool s8.bad], 0, .full⟩)
    rw [show (⟨s4.l, s4.bad⟩ : RS) = s4 from rfl, hv0] at c1
    rw [show (⟨s5.l, s5.bad⟩ : RS) = s5 from rfl, hf0, List.set_set] at c2
    rw [show (⟨s6.l, s6.bad⟩ : RS) = s6 from rfl, hd0, List.set_set] at c3
    rw [show (⟨s7.l, s7.bad⟩ : RS) = s7 from rfl, hu0, List.set_set] at c4
    rw [show (⟨s8.l, s8.bad⟩ : RS) = s8 from rfl, hy0, List.set_set] at c5
    simp only [RS.blk, Int.cast_ofNat_Int] at c1 c2 c3 c4 c5
    have h1 : ¬ (i : Int) < i := by omega
    have hw : IntKind.u32.wrap f0 = f0 := by rw [IntKind.wrap_u32]; omega
    refine wx_sound hT _ ?_
    repeat' (first | simp only [go_sem, Nat.reduceLT, Nat.reduceEqDiff, Nat.reduceAdd, Nat.reduceMul, Nat.reduceSub, Nat.reduceLeDiff, Int.reduceToNat, Int.reduceNeg, Int.reduceLT, Int.reduceLE, Int.reduceEq, reduceCtorEq, Int.natCast_zero, Int.natCast_one, Int.cast_ofNat_Int, Bool.not_not, false_eq_decide, true_eq_decide, hread0, hreadk, read_cons0, read_consk, astore_h0, astore_hk, hget0, hgetk, hset0, hsetk, hlen, hcat, Nat.add_assoc, Nat.add_zero, Nat.zero_add, List.length_append, and_true, true_and, AV.flat, hcG, get_app hcG, read_get hcG, read_app hcG, hrG, get_app hrG, read_get hrG, read_app hrG, *, -hK, -c1, -c2, -c3, -c4, -c5, -hk0, -ht0, -hn0, -hv0, -hf0, -hd0, -hu0, -hy0, -hres, -hlG, -hks4] | refine WC.call (c1) ?_ | refine WC.call (c2) ?_ | refine WC.call (c3) ?_ | refine WC.call (c4) ?_ | refine WC.call (c5) ?_ | with_reducible refine IfB_dec (fun h => ?_) (fun h => ?_) | with_reducible refine Guard_dec (fun h => ?_) (fun h => ?_) | with_reducible refine Guard_ndec (fun h => ?_) (fun h => ?_) | with_reducible refine Guard_not (fun h => ?_) (fun h => ?_) | with_reducible refine IfB_ndec (fun h => ?_) (fun h => ?_) | with_reducible refine IfB_not (fun h => ?_) (fun h => ?_) | with_reducible refine Guard_split (fun h => ?_) (fun h => ?_) | with_reducible refine IfB_split (fun h => ?_) (fun h => ?_))
    clear c1 c2 c3 c4 c5
    generalize hG2 : List.set G (H.length + 1) (⟨[Enc.u8.lst s9.l, .bool s9.bad], 0, .full⟩ : Blk) = G2
    have hr2 : G2[H.length + 1]? = some ⟨[Enc.u8.lst s9.l, .bool s9.bad], 0, .full⟩ := by rw [← hG2]; exact get_set hrG _
    have hc2 := (Keep.of_set hG2.symm).get hcG (by simp)
    have hz2 := (Keep.of_set hG2.symm).get hzG (by simp)
    have hl2 : G2.length = G.length := by rw [← hG2, List.length_set]
    have k2 : Keep none H G2 := ⟨by omega, fun b hb _ => by rw [(Keep.of_set hG2.symm).at_ b (by omega) (by simp; omega)]; exact kG.at_ b hb (by simp)⟩
    clear hG2 hrG hcG hzG kG
    repeat' (first | simp only [go_sem, Nat.reduceLT, Nat.reduceEqDiff, Nat.reduceAdd, Nat.reduceMul, Nat.reduceSub, Nat.reduceLeDiff, Int.reduceToNat, Int.reduceNeg, Int.reduceLT, Int.reduceLE, Int.reduceEq, reduceCtorEq, Int.natCast_zero, Int.natCast_one, Int.cast_ofNat_Int, Bool.not_not, false_eq_decide, true_eq_decide, hread0, hreadk, read_cons0, read_consk, astore_h0, astore_hk, hget0, hgetk, hset0, hsetk, hlen, hcat, Nat.add_assoc, Nat.add_zero, Nat.zero_add, List.length_append, and_true, true_and, AV.flat, hc2, get_app hc2, read_get hc2, read_app hc2, astore_get hc2, astore_app hc2, get_set hc2, get_set_app hc2, read_set hc2, read_set_app hc2, astore_set hc2, astore_set_app hc2, List.set_set, hget0s, hgetks, hread0s, hreadks, List.length_set, *, -hK, -hk0, -ht0, -hn0, -hv0, -hf0, -hd0, -hu0, -hy0, -hres, -hlG, -hks4, -hl2] | with_reducible refine IfB_dec (fun h => ?_) (fun h => ?_) | with_reducible refine Guard_dec (fun h => ?_) (fun h => ?_) | with_reducible refine Guard_ndec (fun h => ?_) (fun h => ?_) | with_reducible refine Guard_not (fun h => ?_) (fun h => ?_) | with_reducible refine IfB_ndec (fun h => ?_) (fun h => ?_) | with_reducible refine IfB_not (fun h => ?_) (fun h => ?_) | with_reducible refine Guard_split (fun h => ?_) (fun h => ?_) | with_reducible refine IfB_split (fun h => ?_) (fun h => ?_))
    generalize hG3 : List.set G2 (H.length + 2) (⟨[.int .u8 k0.toNat, .int .i64 t0, Enc.str.lst ks, .str v0, .int .u32 f0, .int .i64 d0, .int .u64 u0, .int .u64 y0], 0, .full⟩ : Blk) = G3
    have hc3 : G3[H.length + 2]? = some ⟨[.int .u8 k0.toNat, .int .i64 t0, Enc.str.lst ks, .str v0, .int .u32 f0, .int .i64 d0, .int .u64 u0, .int .u64 y0], 0, .full⟩ := by rw [← hG3]; exact get_set hc2 _
    have hr3 := (Keep.of_set hG3.symm).get hr2 (by simp)
    have hz3 := (Keep.of_set hG3.symm).get hz2 (by simp)
    have hl3 : G3.length = G2.length := by rw [← hG3, List.length_set]
    have k3 : Keep none H G3 := ⟨by omega, fun b hb _ => by rw [(Keep.of_set hG3.symm).at_ b (by omega) (by simp; omega)]; exact k2.at_ b hb (by simp)⟩
    clear hG3 hr2 hc2 hz2 k2
    have k4 : ∀ B : Blk, Keep none H (List.set G3 H.length B) := fun B => ⟨by rw [List.length_set]; exact k3.len, fun b hb _ => by rw [List.getElem?_set_ne (by omega)]; exact k3.at_ b hb (by simp)⟩
    have cp := fun J => commandP ⟨k0.toNat, t0, ks, v0, f0, d0, u0, y0⟩ hok (by show ks.length ≤ _; omega) J
    unfold Cmd.av at cp
    generalize hce : commandL ⟨k0.toNat, t0, ks, v0, f0, d0, u0, y0⟩ = ce at *
    obtain ⟨a, e⟩ := ce
    simp only at hres cp
    obtain ⟨hbad, hgood⟩ := hres
    by_cases hx : s9.bad = false ∧ e = 0 ∧ a = b
    · obtain ⟨x1, rfl, rfl⟩ := hx
      rw [hgood x1 rfl rfl] at hK
      simp only [Cmd.av] at hK
      clear hbad hgood hok hce
      repeat' (first | simp only [go_sem, Nat.reduceLT, Nat.reduceEqDiff, Nat.reduceAdd, Nat.reduceMul, Nat.reduceSub, Nat.reduceLeDiff, Int.reduceToNat, Int.reduceNeg, Int.reduceLT, Int.reduceLE, Int.reduceEq, reduceCtorEq, Int.natCast_zero, Int.natCast_one, Int.cast_ofNat_Int, Bool.not_not, false_eq_decide, true_eq_decide, hread0, hreadk, read_cons0, read_consk, astore_h0, astore_hk, hget0, hgetk, hset0, hsetk, hlen, hcat, Nat.add_assoc, Nat.add_zero, Nat.zero_add, List.length_append, and_true, true_and, AV.flat, hc3, get_app hc3, read_get hc3, read_app hc3, hr3, get_app hr3, read_get hr3, read_app hr3, hz3, get_app hz3, read_get hz3, read_app hz3, astore_get hz3, astore_app hz3, get_set hz3, get_set_app hz3, read_set hz3, read_set_app hz3, astore_set hz3, astore_set_app hz3, List.set_set, hget0s, hgetks, hread0s, hreadks, List.length_set, *, -hK, -hk0, -ht0, -hn0, -hv0, -hf0, -hd0, -hu0, -hy0, -hlG, -hks4, -hl2, -hl3, -cp] | refine WC.call (cp _) ?_ | refine WC.call (bytesEqual_spec _ _ _) ?_ | with_reducible refine IfB_dec (fun h => ?_) (fun h => ?_) | with_reducible refine Guard_dec (fun h => ?_) (fun h => ?_) | with_reducible refine Guard_ndec (fun h => ?_) (fun h => ?_) | with_reducible refine Guard_not (fun h => ?_) (fun h => ?_) | with_reducible refine IfB_ndec (fun h => ?_) (fun h => ?_) | with_reducible refine IfB_not (fun h => ?_) (fun h => ?_) | with_reducible refine Guard_split (fun h => ?_) (fun h => ?_) | with_reducible refine IfB_split (fun h => ?_) (fun h => ?_))
      exact hK _ _ (Thaw.tup_row ⟨Thaw.agg_row ⟨.int _ _, .int _ _, .lst _ _, .str _, .int _ _, .int _ _, .int _ _, .int _ _, trivial⟩, .int _ _, trivial⟩) (k4 _)
    · rw [hbad hx] at hK
      simp only [Cmd.av, cmd0] at hK
      clear hbad hgood hok hce
      repeat' (first | simp only [go_sem, Nat.reduceLT, Nat.reduceEqDiff, Nat.reduceAdd, Nat.reduceMul, Nat.reduceSub, Nat.reduceLeDiff, Int.reduceToNat, Int.reduceNeg, Int.reduceLT, Int.reduceLE, Int.reduceEq, reduceCtorEq, Int.natCast_zero, Int.natCast_one, Int.cast_ofNat_Int, Bool.not_not, false_eq_decide, true_eq_decide, hread0, hreadk, read_cons0, read_consk, astore_h0, astore_hk, hget0, hgetk, hset0, hsetk, hlen, hcat, Nat.add_assoc, Nat.add_zero, Nat.zero_add, List.length_append, and_true, true_and, AV.flat, hc3, get_app hc3, read_get hc3, read_app hc3, hr3, get_app hr3, read_get hr3, read_app hr3, hz3, get_app hz3, read_get hz3, read_app hz3, astore_get hz3, astore_app hz3, get_set hz3, get_set_app hz3, read_set hz3, read_set_app hz3, astore_set hz3, astore_set_app hz3, List.set_set, hget0s, hgetks, hread0s, hreadks, List.length_set, *, -hK, -hk0, -ht0, -hn0, -hv0, -hf0, -hd0, -hu0, -hy0, -hlG, -hks4, -hl2, -hl3, -cp, -hx] | refine WC.call (cp _) ?_ | refine WC.call (bytesEqual_spec _ _ _) ?_ | with_reducible refine IfB_dec (fun h => ?_) (fun h => ?_) | with_reducible refine Guard_dec (fun h => ?_) (fun h => ?_) | with_reducible refine Guard_ndec (fun h => ?_) (fun h => ?_) | with_reducible refine Guard_not (fun h => ?_) (fun h => ?_) | with_reducible refine IfB_ndec (fun h => ?_) (fun h => ?_) | with_reducible refine IfB_not (fun h => ?_) (fun h => ?_) | with_reducible refine Guard_split (fun h => ?_) (fun h => ?_) | with_reducible refine IfB_split (fun h => ?_) (fun h => ?_))
      all_goals first
        | exact hK _ _ (Thaw.tup_row ⟨Thaw.agg_row ⟨.int _ _, .int _ _, .nils, .str _, .int _ _, .int _ _, .int _ _, .int _ _, trivial⟩, .int _ _, trivial⟩) (k4 _)
        | exact absurd ⟨‹_›, ‹_›, ‹_›⟩ hx
        | trace_state
open Go Go.Proofs Go.Proofs.PI
section
variable {H G : Heap} {L : List Blk} (lk : Keep none (H ++ L : Heap) G) {k : Nat} {s : RS} (hk : L[k]? = some ⟨[Enc.u8.lst s.l, .bool s.bad], 0, .full⟩) (hl : s.l.length ≤ 140737488355328)
include lk hk hl
theorem Number_lk (m : Nat) (hm : m < 2 ^ 64) : WC Try.prog 53 [.ptr (H.length + k) 0, .int .u64 m] G fun r G' => r = .int .u64 (numR m s).1 ∧ Keep none (H ++ L.set k (numR m s).2.blk : Heap) G' ∧ Keep (some (H.length + k)) G G' :=
  (Number_spec _ m hm s.l s.bad hl G (like_at lk hk)).mono fun r G' ⟨h1, h2⟩ => ⟨h1, h2 ▸ like_set lk (List.getElem?_eq_some_iff.1 hk).1 _, Keep.of_set h2⟩
theorem Text_lk : WC Try.prog 54 [.ptr (H.length + k) 0] G fun r G' => r = .str (textS s).1 ∧ Keep none (H ++ L.set k (textS s).2.blk : Heap) G' ∧ Keep (some (H.length + k)) G G' :=
  (Text_spec _ s.l s.bad hl G (like_at lk hk)).mono fun r G' ⟨h1, h2⟩ => ⟨h1, h2 ▸ like_set lk (List.getElem?_eq_some_iff.1 hk).1 _, Keep.of_set h2⟩
theorem Byte_lk : WC Try.prog 52 [.ptr (H.length + k) 0] G fun r G' => r = .int .u8 (byteS s).1.toNat ∧ Keep none (H ++ L.set k (byteS s).2.blk : Heap) G' ∧ Keep (some (H.length + k)) G G' :=
  (Byte_spec _ s.l s.bad hl G (like_at lk hk)).mono fun r G' ⟨h1, h2⟩ => ⟨h1, h2 ▸ like_set lk (List.getElem?_eq_some_iff.1 hk).1 _, Keep.of_set h2⟩
end
theorem keysGo_end {m : Nat} {s : RS} {ks : List (List UInt8)} (h : m = 0 ∨ s.bad = true) : keysGo true m s ks = (ks, s) := by
  cases m with
  | zero => rfl
  | succ m => rw [keysGo, if_pos ⟨rfl, h.resolve_left (by simp)⟩]
theorem refOfCommand_spec (b : List UInt8) (hl : b.length ≤ 140737488355328) (H : Heap) : WC Try.prog 27 [Enc.u8.lst b] H fun r H' => r = .tup [(ofCommandL b).1.av, .int .i64 (ofCommandL b).2] ∧ H' = H := by
  refine WC_val fun K hK => ?_
  have se := fun (H : Heap) (l : List UInt8) => str_enc (T := T) (H := H) (l := l) se30 tk9 tk5
  have hres := ofCommand_res numR_ok (stop := true) (b := b)
  have hok := cmdG_ok numR_ok true b
  unfold cmdG at hres hok
  simp only at hres hok
  obtain ⟨k0, s1, hk0⟩ : ∃ x s, byteS ⟨b, false⟩ = (x, s) := ⟨_, _, rfl⟩
  have lk0 := byteS_len ⟨b, false⟩
  rw [hk0] at hres hok lk0
  obtain ⟨t0, s2, ht0⟩ : ∃ x s, numR 4 s1 = (x, s) := ⟨_, _, rfl⟩
  have lt0 := numR_len 4 s1
  have mt0 := numR_le 4 s1
  simp only at hres hok lk0
  rw [ht0] at hres hok lt0 mt0
  obtain ⟨n0, s3, hn0⟩ : ∃ x s, numR 8 s2 = (x, s) := ⟨_, _, rfl⟩
  have ln0 := numR_len 8 s2
  have hn8 := numR_le 8 s2
  simp only at hres hok lt0 mt0
  rw [hn0] at hres hok ln0 hn8
  simp only at hres hok ln0 hn8
  have b1 := fun (L : Heap) (hb : L[1]? = some ⟨[Enc.u8.lst b, .bool false], 0, .full⟩) => Byte_spec (H.length + 1) b false hl (H ++ L) (by rw [hgetk]; exact hb)
  have b2 := fun (L : Heap) (hb : L[1]? = some ⟨[Enc.u8.lst s1.l, .bool s1.bad], 0, .full⟩) => Number_spec (H.length + 1) 4 (by omega) s1.l s1.bad (by omega) (H ++ L) (by rw [hgetk]; exact hb)
  have b3 := fun (L : Heap) (hb : L[1]? = some ⟨[Enc.u8.lst s2.l, .bool s2.bad], 0, .full⟩) => Number_spec (H.length + 1) 8 (by omega) s2.l s2.bad (by omega) (H ++ L) (by rw [hgetk]; exact hb)
  rw [hk0] at b1
  rw [show (⟨s1.l, s1.bad⟩ : RS) = s1 from rfl, ht0] at b2
  rw [show (⟨s2.l, s2.bad⟩ : RS) = s2 from rfl, hn0] at b3
  simp only [RS.blk, Int.cast_ofNat_Int] at b1 b2 b3
  have hwt : IntKind.i64.wrap t0 = t0 := i64_id _ (by omega) (by omega)
  refine WC_of_body hT Try.func27 rfl (by simp [Try.f27]) (by simp [Try.f27]) (wx_sound hT _ ?_)
  simp only [Try.f27]
  repeat' (first | simp only [go_sem, Nat.reduceLT, Nat.reduceEqDiff, Nat.reduceAdd, Nat.reduceMul, Nat.reduceSub, Nat.reduceLeDiff, Int.reduceToNat, Int.reduceNeg, Int.reduceLT, Int.reduceLE, Int.reduceEq, reduceCtorEq, Int.natCast_zero, Int.natCast_one, Int.cast_ofNat_Int, Bool.not_not, false_eq_decide, true_eq_decide, hread0, hreadk, read_cons0, read_consk, astore_h0, astore_hk, hget0, hgetk, hset0, hsetk, hlen, hcat, Nat.add_assoc, Nat.add_zero, Nat.zero_add, List.length_append, and_true, true_and, AV.flat, *, -hK, -b1, -b2, -b3, -hk0, -ht0, -hn0, -hres] | refine WC.call (b1 _ rfl) ?_ | refine WC.call (b2 _ rfl) ?_ | refine WC.call (b3 _ rfl) ?_ | with_reducible refine IfB_dec (fun h => ?_) (fun h => ?_) | with_reducible refine Guard_dec (fun h => ?_) (fun h => ?_) | with_reducible refine Guard_ndec (fun h => ?_) (fun h => ?_) | with_reducible refine Guard_not (fun h => ?_) (fun h => ?_) | with_reducible refine IfB_ndec (fun h => ?_) (fun h => ?_) | with_reducible refine IfB_not (fun h => ?_) (fun h => ?_) | with_reducible refine Guard_split (fun h => ?_) (fun h => ?_) | with_reducible refine IfB_split (fun h => ?_) (fun h => ?_))
  clear b1 b2 b3
  refine WX_loopS [0, 2, 4, 5, 6] (fun k fr' G => ∃ (i : Nat) (v : AV) (ks : List (List UInt8)) (s : RS), k = n0 - i ∧ i ≤ n0 ∧ fr'.get 7 = .int .u64 i ∧
    Keep none (H ++ [(⟨[.int .u8 0, .int .i64 0, .nils, .str [], .int .u32 0, .int .i64 0, .int .u64 0, .int .u64 0], 0, .full⟩ : Blk), ⟨[Enc.u8.lst s.l, .bool s.bad], 0, .full⟩, ⟨[.int .u8 k0.toNat, .int .i64 t0, v, .str [], .int .u32 0, .int .i64 0, .int .u64 0, .int .u64 0], 0, .full⟩] : Heap) G ∧
    OwnE Enc.str (H.length + 3) G v ks ∧ keysGo true n0 s3 [] = keysGo true (n0 - i) s ks ∧ ks.length = i ∧ s.l.length ≤ s3.l.length) n0 ⟨0, .nils, [], s3, rfl, by omega, by simp only [go_sem, Nat.reduceLT, Nat.reduceEqDiff, Nat.reduceAdd, Nat.reduceMul, Nat.reduceSub, Nat.reduceLeDiff, Int.reduceToNat, Int.reduceNeg, Int.reduceLT, Int.reduceLE, Int.reduceEq, reduceCtorEq]; rfl, Keep.refl _ _, OwnE.nils _ _ _, rfl, rfl, Nat.le_refl _⟩ ?_
  rintro k fr' G A R hA hs hg hR ⟨i, v, ks, s, rfl, hi, f7, lk, ov, hkey, hkl, hsl⟩
  have s0 := hg 0 (by decide)
  have s2 := hg 2 (by decide)
  have s4 := hg 4 (by decide)
  have s5 := hg 5 (by decide)
  have s6 := hg 6 (by decide)
  simp only [Fr.get_put, Fr.get_init, List.getD_cons_zero, List.getD_cons_succ, Nat.reduceEqDiff, if_true, if_false] at s0 s2 s4 s5 s6
  have hv := ov.one
  have hvb : ∀ b, v.blk = some b → H.length + 3 ≤ b ∧ b < G.length := fun b hb => ⟨ov.ge hb, ov.lt hb⟩
  have hlG := lk.len
  rw [hlen] at hlG
  simp only [List.length_cons, List.length_nil] at hlG
  by_cases hlt : i < n0 ∧ s.bad = false
  · obtain ⟨hlt, hsb⟩ := hlt
    refine wx_sound hT _ ?_
    have h1 : (i : Int) < n0 := by omega
    have e3 : IntKind.u64.wrap ((i : Int) + 1) = ((i + 1 : Nat) : Int) := by rw [IntKind.wrap_u64]; omega
    rw [show n0 - i = (n0 - (i + 1)) + 1 by omega, keysGo, if_neg (by simp [hsb])] at hkey
    repeat' (first | simp only [go_sem, Nat.reduceLT, Nat.reduceEqDiff, Nat.reduceAdd, Nat.reduceMul, Nat.reduceSub, Nat.reduceLeDiff, Int.reduceToNat, Int.reduceNeg, Int.reduceLT, Int.reduceLE, Int.reduceEq, reduceCtorEq, Int.natCast_zero, Int.natCast_one, Int.cast_ofNat_Int, Bool.not_not, false_eq_decide, true_eq_decide, hread0, hreadk, read_cons0, read_consk, astore_h0, astore_hk, hget0, hgetk, hset0, hsetk, hlen, hcat, Nat.add_assoc, Nat.add_zero, Nat.zero_add, List.length_append, and_true, true_and, AV.flat, like_read lk, like_read0 lk, like_readA lk, like_readA0 lk, like_get lk, like_get0 lk, like_getA lk, like_getA0 lk, hv, one_solid hv, one_cells hv, *, -hK, -hkey, -hk0, -ht0, -hn0, -hres, -hkl] | with_reducible refine IfB_dec (fun h => ?_) (fun h => ?_) | with_reducible refine Guard_dec (fun h => ?_) (fun h => ?_) | with_reducible refine Guard_ndec (fun h => ?_) (fun h => ?_) | with_reducible refine Guard_not (fun h => ?_) (fun h => ?_) | with_reducible refine IfB_ndec (fun h => ?_) (fun h => ?_) | with_reducible refine IfB_not (fun h => ?_) (fun h => ?_) | with_reducible refine Guard_split (fun h => ?_) (fun h => ?_) | with_reducible refine IfB_split (fun h => ?_) (fun h => ?_))
    refine WX_rows hT hmix [(0, none), (1, none), (2, none), (3, some [true, false, false]), (4, none), (5, some [true, true, true, true, true]), (6, none), (7, some [true, true, true, true, true, true, true])] (by kernel_rfl) ?_
    repeat' (first | simp only [go_sem, Nat.reduceLT, Nat.reduceEqDiff, Nat.reduceAdd, Nat.reduceMul, Nat.reduceSub, Nat.reduceLeDiff, Int.reduceToNat, Int.reduceNeg, Int.reduceLT, Int.reduceLE, Int.reduceEq, reduceCtorEq, Int.natCast_zero, Int.natCast_one, Int.cast_ofNat_Int, Bool.not_not, false_eq_decide, true_eq_decide, hread0, hreadk, read_cons0, read_consk, astore_h0, astore_hk, hget0, hgetk, hset0, hsetk, hlen, hcat, Nat.add_assoc, Nat.add_zero, Nat.zero_add, List.length_append, and_true, true_and, AV.flat, like_read lk, like_read0 lk, like_readA lk, like_readA0 lk, like_get lk, like_get0 lk, like_getA lk, like_getA0 lk, hv, one_solid hv, one_cells hv, *, -hK, -hkey, -hk0, -ht0, -hn0, -hres, -hkl] | with_reducible refine IfB_dec (fun h => ?_) (fun h => ?_) | with_reducible refine Guard_dec (fun h => ?_) (fun h => ?_) | with_reducible refine Guard_ndec (fun h => ?_) (fun h => ?_) | with_reducible refine Guard_not (fun h => ?_) (fun h => ?_) | with_reducible refine IfB_ndec (fun h => ?_) (fun h => ?_) | with_reducible refine IfB_not (fun h => ?_) (fun h => ?_) | with_reducible refine Guard_split (fun h => ?_) (fun h => ?_) | with_reducible refine IfB_split (fun h => ?_) (fun h => ?_))
    refine (Text_lk (k := 1) (s := s) lk rfl (by omega)).mono ?_
    rintro r G2 ⟨rfl, lk2, kg⟩
    simp only [List.set_cons_succ, List.set_cons_zero, RS.blk] at lk2
    have ov2 := ov.keep kg (fun b hb e => by cases hb; have := hvb _ e; omega)
    have hl2 := kg.len
    repeat' (first | simp only [go_sem, Nat.reduceLT, Nat.reduceEqDiff, Nat.reduceAdd, Nat.reduceMul, Nat.reduceSub, Nat.reduceLeDiff, Int.reduceToNat, Int.reduceNeg, Int.reduceLT, Int.reduceLE, Int.reduceEq, reduceCtorEq, Int.natCast_zero, Int.natCast_one, Int.cast_ofNat_Int, Bool.not_not, false_eq_decide, true_eq_decide, hread0, hreadk, read_cons0, read_consk, astore_h0, astore_hk, hget0, hgetk, hset0, hsetk, hlen, hcat, Nat.add_assoc, Nat.add_zero, Nat.zero_add, List.length_append, and_true, true_and, AV.flat, like_read lk2, like_read0 lk2, like_readA lk2, like_readA0 lk2, like_get lk2, like_get0 lk2, like_getA lk2, like_getA0 lk2, hv, one_solid hv, one_cells hv, *, -hK, -hkey, -hk0, -ht0, -hn0, -hres, -hkl] | with_reducible refine IfB_dec (fun h => ?_) (fun h => ?_) | with_reducible refine Guard_dec (fun h => ?_) (fun h => ?_) | with_reducible refine Guard_ndec (fun h => ?_) (fun h => ?_) | with_reducible refine Guard_not (fun h => ?_) (fun h => ?_) | with_reducible refine IfB_ndec (fun h => ?_) (fun h => ?_) | with_reducible refine IfB_not (fun h => ?_) (fun h => ?_) | with_reducible refine Guard_split (fun h => ?_) (fun h => ?_) | with_reducible refine IfB_split (fun h => ?_) (fun h => ?_))
    refine append1_enc (E := Enc.str) (m := H.length + 3) (x := (textS s).1) ov2 rfl se42 az9 td9 tk42 rfl rfl (by decide) (by show (ks.length + 1) * 17 ≤ _; omega) (by omega) ?_
    intro v' G4 o4 k4 hn4
    have hv4 := o4.one
    have hvb4 : ∀ b, v'.blk = some b → H.length + 3 ≤ b := fun b hb => o4.ge hb
    have lk4 := OwnE.new (Own.mono ov2 (by simp) : OwnE Enc.str (H ++ [_, _, _] : Heap).length G2 v ks) lk2 k4
    have hl4 := k4.len
    repeat' (first | simp only [go_sem, Nat.reduceLT, Nat.reduceEqDiff, Nat.reduceAdd, Nat.reduceMul, Nat.reduceSub, Nat.reduceLeDiff, Int.reduceToNat, Int.reduceNeg, Int.reduceLT, Int.reduceLE, Int.reduceEq, reduceCtorEq, Int.natCast_zero, Int.natCast_one, Int.cast_ofNat_Int, Bool.not_not, false_eq_decide, true_eq_decide, hread0, hreadk, read_cons0, read_consk, astore_h0, astore_hk, hget0, hgetk, hset0, hsetk, hlen, hcat, Nat.add_assoc, Nat.add_zero, Nat.zero_add, List.length_append, and_true, true_and, AV.flat, like_read lk4, like_read0 lk4, like_readA lk4, like_readA0 lk4, like_get lk4, like_get0 lk4, like_getA lk4, like_getA0 lk4, hv4, one_solid hv4, one_cells hv4, *, -hK, -hkey, -hk0, -ht0, -hn0, -hres, -hkl] | with_reducible refine IfB_dec (fun h => ?_) (fun h => ?_) | with_reducible refine Guard_dec (fun h => ?_) (fun h => ?_) | with_reducible refine Guard_ndec (fun h => ?_) (fun h => ?_) | with_reducible refine Guard_not (fun h => ?_) (fun h => ?_) | with_reducible refine IfB_ndec (fun h => ?_) (fun h => ?_) | with_reducible refine IfB_not (fun h => ?_) (fun h => ?_) | with_reducible refine Guard_split (fun h => ?_) (fun h => ?_) | with_reducible refine IfB_split (fun h => ?_) (fun h => ?_))
    refine like_store lk4 (k := 2) rfl rfl (by simp only [asize, td42, Option.map_some]) hv4 (by simp) ?_
    intro G5 lk5 kg5
    simp only [List.set_cons_succ, List.set_cons_zero] at lk5
    repeat' (first | simp only [go_sem, Nat.reduceLT, Nat.reduceEqDiff, Nat.reduceAdd, Nat.reduceMul, Nat.reduceSub, Nat.reduceLeDiff, Int.reduceToNat, Int.reduceNeg, Int.reduceLT, Int.reduceLE, Int.reduceEq, reduceCtorEq, Int.natCast_zero, Int.natCast_one, Int.cast_ofNat_Int, Bool.not_not, false_eq_decide, true_eq_decide, hread0, hreadk, read_cons0, read_consk, astore_h0, astore_hk, hget0, hgetk, hset0, hsetk, hlen, hcat, Nat.add_assoc, Nat.add_zero, Nat.zero_add, List.length_append, and_true, true_and, AV.flat, *, -hK, -hkey, -hk0, -ht0, -hn0, -hres, -hkl] | with_reducible refine IfB_dec (fun h => ?_) (fun h => ?_) | with_reducible refine Guard_dec (fun h => ?_) (fun h => ?_) | with_reducible refine Guard_ndec (fun h => ?_) (fun h => ?_) | with_reducible refine Guard_not (fun h => ?_) (fun h => ?_) | with_reducible refine IfB_ndec (fun h => ?_) (fun h => ?_) | with_reducible refine IfB_not (fun h => ?_) (fun h => ?_) | with_reducible refine Guard_split (fun h => ?_) (fun h => ?_) | with_reducible refine IfB_split (fun h => ?_) (fun h => ?_))
    refine hR _ _ (by (repeat (first | exact hs | refine hA _ _ _ (by decide) ?_))) (n0 - (i + 1)) (by omega) ⟨i + 1, v', ks ++ [(textS s).1], (textS s).2, rfl, by omega, by simp only [go_sem, Nat.reduceLT, Nat.reduceEqDiff, Nat.reduceAdd, Nat.reduceMul, Nat.reduceSub, Nat.reduceLeDiff, Int.reduceToNat, Int.reduceNeg, Int.reduceLT, Int.reduceLE, Int.reduceEq, reduceCtorEq], lk5, o4.keep kg5 (fun b hb e => by cases hb; have := hvb4 _ e; omega), hkey, by simp [hkl], Nat.le_trans (textS_len s).2 hsl⟩
  · have hend : keysGo true n0 s3 [] = (ks, s) := by
      rw [hkey]
      refine keysGo_end ?_
      by_cases h : i < n0
      · refine .inr ?_
        cases hb : s.bad with
        | true => rfl
        | false => exact absurd ⟨h, hb⟩ hlt
      · exact .inl (by omega)
    rw [hend] at hres hok
    simp only at hres hok
    refine WX_freeze (n := ks.length) ov (Enc.row_flat (E := Enc.str) ks) (Enc.row_length ks) (by decide) (like_at lk (k := 2) rfl) (fun e => by have := hvb _ e; omega) (C := ⟨[.int .u8 k0.toNat, .int .i64 t0, Enc.str.lst ks, .str [], .int .u32 0, .int .i64 0, .int .u64 0, .int .u64 0], 0, .full⟩) rfl rfl ⟨.inl rfl, .inl rfl, .inr ⟨rfl, rfl⟩, .inl rfl, .inl rfl, .inl rfl, .inl rfl, .inl rfl, trivial⟩ ?_
    intro G1 hl1 hc1 ho1
    have lk1 : Keep none (H ++ [(⟨[.int .u8 0, .int .i64 0, .nils, .str [], .int .u32 0, .int .i64 0, .int .u64 0, .int .u64 0], 0, .full⟩ : Blk), ⟨[Enc.u8.lst s.l, .bool s.bad], 0, .full⟩, ⟨[.int .u8 k0.toNat, .int .i64 t0, Enc.str.lst ks, .str [], .int .u32 0, .int .i64 0, .int .u64 0, .int .u64 0], 0, .full⟩] : Heap) G1 := by
      refine ⟨by rw [hlen]; simp only [List.length_cons, List.length_nil]; omega, fun b hb _ => ?_⟩
      rw [hlen] at hb
      simp only [List.length_cons, List.length_nil] at hb
      by_cases e : b = H.length + 2
      · rw [e, hc1, hgetk]; rfl
      · rw [ho1 b (fun e => by have := hvb _ e; omega) e, lk.at_ b (by rw [hlen]; simp only [List.length_cons, List.length_nil]; omega) (by simp)]
        by_cases e2 : b < H.length
        · rw [List.getElem?_append_left e2, List.getElem?_append_left e2]
        · by_cases e3 : b = H.length
          · rw [e3, hget0, hget0]; rfl
          · rw [show b = H.length + 1 by omega, hgetk, hgetk]; rfl
    clear lk ho1 hc1 hR hs hA hkey ov hvb hg
    obtain ⟨v0, s5, hv0⟩ : ∃ x t, textS s = (x, t) := ⟨_, _, rfl⟩
    have lv0 := textS_len s
    rw [hv0] at hres hok lv0
    obtain ⟨f0, s6, hf0⟩ : ∃ x t, numR 4294967295 s5 = (x, t) := ⟨_, _, rfl⟩
    have lf0 := numR_len 4294967295 s5
    have mf0 := numR_le 4294967295 s5
    simp only at hres hok lv0
    rw [hf0] at hres hok lf0 mf0
    obtain ⟨d0, s7, hd0⟩ : ∃ x t, numR 1099511627776 s6 = (x, t) := ⟨_, _, rfl⟩
    have ld0 := numR_len 1099511627776 s6
    have md0 := numR_le 1099511627776 s6
    simp only at hres hok lf0 mf0
    rw [hd0] at hres hok ld0 md0
    obtain ⟨u0, s8, hu0⟩ : ∃ x t, numR 18446744073709551615 s7 = (x, t) := ⟨_, _, rfl⟩
    have lu0 := numR_len 18446744073709551615 s7
    simp only at hres hok ld0 md0
    rw [hu0] at hres hok lu0
    obtain ⟨y0, s9, hy0⟩ : ∃ x t, numR 18446744073709551615 s8 = (x, t) := ⟨_, _, rfl⟩
    simp only at hres hok lu0
    rw [hy0] at hres hok
    simp only at hres hok
    have hw : IntKind.u32.wrap f0 = f0 := by rw [IntKind.wrap_u32]; omega
    have hw2 : IntKind.i64.wrap d0 = d0 := i64_id _ (by omega) (by omega)
    have hexit : (i : Int) < n0 → s.bad = true := fun h => by
      cases hb : s.bad with
      | true => rfl
      | false => exact absurd ⟨by omega, hb⟩ hlt
    refine wx_sound hT _ ?_
    have cp := fun J => refCommandP ⟨k0.toNat, t0, ks, v0, f0, d0, u0, y0⟩ hok (by show ks.length ≤ _; omega) J
    unfold Cmd.av at cp
    generalize hce : commandL ⟨k0.toNat, t0, ks, v0, f0, d0, u0, y0⟩ = ce at *
    obtain ⟨a, e⟩ := ce
    simp only at hres cp
    obtain ⟨hbad, hgood⟩ := hres
    have hout : ∀ (G : Heap) (L : List Blk) (B : Blk), Keep none (H ++ L : Heap) G → Keep none H (List.set G H.length B) := fun G L B lk => by
      refine ⟨by rw [List.length_set]; exact (like_keep lk).len, fun b hb _ => ?_⟩
      rw [List.getElem?_set_ne (by omega)]; exact (like_keep lk).at_ b hb (by simp)
    have hx0 : (s9.bad = false ∧ e = 0 ∧ a = b) ∨ ¬ (s9.bad = false ∧ e = 0 ∧ a = b) := Classical.em _
    rcases hx0 with ⟨x1, rfl, rfl⟩ | hx
    · rw [hgood x1 rfl rfl] at hK
      simp only [Cmd.av] at hK
      clear hbad hgood hok hce
      cases hsb : s.bad
      · have h1 : ¬ (i : Int) < n0 := fun h => by have := hexit h; rw [hsb] at this; cases this
        clear hexit hlt
        repeat' (first | simp only [go_sem, Nat.reduceLT, Nat.reduceEqDiff, Nat.reduceAdd, Nat.reduceMul, Nat.reduceSub, Nat.reduceLeDiff, Int.reduceToNat, Int.reduceNeg, Int.reduceLT, Int.reduceLE, Int.reduceEq, reduceCtorEq, Int.natCast_zero, Int.natCast_one, Int.cast_ofNat_Int, Bool.not_not, false_eq_decide, true_eq_decide, hread0, hreadk, read_cons0, read_consk, astore_h0, astore_hk, hget0, hgetk, hset0, hsetk, hlen, hcat, Nat.add_assoc, Nat.add_zero, Nat.zero_add, List.length_append, and_true, true_and, AV.flat, like_read lk1, like_read0 lk1, like_readA lk1, like_readA0 lk1, like_get lk1, like_get0 lk1, like_getA lk1, like_getA0 lk1, *, -hK, -hk0, -ht0, -hn0, -hv0, -hf0, -hd0, -hu0, -hy0, -hend, -hkl, -cp] | with_reducible refine IfB_dec (fun h => ?_) (fun h => ?_) | with_reducible refine Guard_dec (fun h => ?_) (fun h => ?_) | with_reducible refine Guard_ndec (fun h => ?_) (fun h => ?_) | with_reducible refine Guard_not (fun h => ?_) (fun h => ?_) | with_reducible refine IfB_ndec (fun h => ?_) (fun h => ?_) | with_reducible refine IfB_not (fun h => ?_) (fun h => ?_) | with_reducible refine Guard_split (fun h => ?_) (fun h => ?_) | with_reducible refine IfB_split (fun h => ?_) (fun h => ?_))
        clear hend
        clear hsb
        have lk := lk1
        clear lk1
        refine (Text_lk (k := 1) (s := s) lk rfl (by omega)).mono ?_
        rintro r G ⟨rfl, lk, -⟩
        simp only [hv0, List.set_cons_succ, List.set_cons_zero, RS.blk] at lk ⊢
        repeat' (first | simp only [go_sem, Nat.reduceLT, Nat.reduceEqDiff, Nat.reduceAdd, Nat.reduceMul, Nat.reduceSub, Nat.reduceLeDiff, Int.reduceToNat, Int.reduceNeg, Int.reduceLT, Int.reduceLE, Int.reduceEq, reduceCtorEq, Int.natCast_zero, Int.natCast_one, Int.cast_ofNat_Int, Bool.not_not, false_eq_decide, true_eq_decide, hread0, hreadk, read_cons0, read_consk, astore_h0, astore_hk, hget0, hgetk, hset0, hsetk, hlen, hcat, Nat.add_assoc, Nat.add_zero, Nat.zero_add, List.length_append, and_true, true_and, AV.flat, like_read lk, like_read0 lk, like_readA lk, like_readA0 lk, like_get lk, like_get0 lk, like_getA lk, like_getA0 lk, *, -hK, -hk0, -ht0, -hn0, -hv0, -hf0, -hd0, -hu0, -hy0, -hkl, -cp] | with_reducible refine IfB_dec (fun h => ?_) (fun h => ?_) | with_reducible refine Guard_dec (fun h => ?_) (fun h => ?_) | with_reducible refine Guard_ndec (fun h => ?_) (fun h => ?_) | with_reducible refine Guard_not (fun h => ?_) (fun h => ?_) | with_reducible refine IfB_ndec (fun h => ?_) (fun h => ?_) | with_reducible refine IfB_not (fun h => ?_) (fun h => ?_) | with_reducible refine Guard_split (fun h => ?_) (fun h => ?_) | with_reducible refine IfB_split (fun h => ?_) (fun h => ?_))
        refine like_store lk (k := 2) rfl rfl (by simp only [asize, td9, td43, td3, td27, Option.map_some]) rfl (by simp) ?_
        intro G lk _
        simp only [List.set_cons_succ, List.set_cons_zero] at lk
        repeat' (first | simp only [go_sem, Nat.reduceLT, Nat.reduceEqDiff, Nat.reduceAdd, Nat.reduceMul, Nat.reduceSub, Nat.reduceLeDiff, Int.reduceToNat, Int.reduceNeg, Int.reduceLT, Int.reduceLE, Int.reduceEq, reduceCtorEq, Int.natCast_zero, Int.natCast_one, Int.cast_ofNat_Int, Bool.not_not, false_eq_decide, true_eq_decide, hread0, hreadk, read_cons0, read_consk, astore_h0, astore_hk, hget0, hgetk, hset0, hsetk, hlen, hcat, Nat.add_assoc, Nat.add_zero, Nat.zero_add, List.length_append, and_true, true_and, AV.flat, like_read lk, like_read0 lk, like_readA lk, like_readA0 lk, like_get lk, like_get0 lk, like_getA lk, like_getA0 lk, *, -hK, -hk0, -ht0, -hn0, -hv0, -hf0, -hd0, -hu0, -hy0, -hkl, -cp] | refine WC.call (cp _) ?_ | with_reducible refine IfB_dec (fun h => ?_) (fun h => ?_) | with_reducible refine Guard_dec (fun h => ?_) (fun h => ?_) | with_reducible refine Guard_ndec (fun h => ?_) (fun h => ?_) | with_reducible refine Guard_not (fun h => ?_) (fun h => ?_) | with_reducible refine IfB_ndec (fun h => ?_) (fun h => ?_) | with_reducible refine IfB_not (fun h => ?_) (fun h => ?_) | with_reducible refine Guard_split (fun h => ?_) (fun h => ?_) | with_reducible refine IfB_split (fun h => ?_) (fun h => ?_))
        refine (Number_lk (k := 1) (s := s5) lk rfl (by omega) 4294967295 (by omega)).mono ?_
        rintro r G ⟨rfl, lk, -⟩
        simp only [hf0, List.set_cons_succ, List.set_cons_zero, RS.blk] at lk ⊢
        repeat' (first | simp only [go_sem, Nat.reduceLT, Nat.reduceEqDiff, Nat.reduceAdd, Nat.reduceMul, Nat.reduceSub, Nat.reduceLeDiff, Int.reduceToNat, Int.reduceNeg, Int.reduceLT, Int.reduceLE, Int.reduceEq, reduceCtorEq, Int.natCast_zero, Int.natCast_one, Int.cast_ofNat_Int, Bool.not_not, false_eq_decide, true_eq_decide, hread0, hreadk, read_cons0, read_consk, astore_h0, astore_hk, hget0, hgetk, hset0, hsetk, hlen, hcat, Nat.add_assoc, Nat.add_zero, Nat.zero_add, List.length_append, and_true, true_and, AV.flat, like_read lk, like_read0 lk, like_readA lk, like_readA0 lk, like_get lk, like_get0 lk, like_getA lk, like_getA0 lk, *, -hK, -hk0, -ht0, -hn0, -hv0, -hf0, -hd0, -hu0, -hy0, -hkl, -cp] | with_reducible refine IfB_dec (fun h => ?_) (fun h => ?_) | with_reducible refine Guard_dec (fun h => ?_) (fun h => ?_) | with_reducible refine Guard_ndec (fun h => ?_) (fun h => ?_) | with_reducible refine Guard_not (fun h => ?_) (fun h => ?_) | with_reducible refine IfB_ndec (fun h => ?_) (fun h => ?_) | with_reducible refine IfB_not (fun h => ?_) (fun h => ?_) | with_reducible refine Guard_split (fun h => ?_) (fun h => ?_) | with_reducible refine IfB_split (fun h => ?_) (fun h => ?_))
        refine like_store lk (k := 2) rfl rfl (by simp only [asize, td9, td43, td3, td27, Option.map_some]) rfl (by simp) ?_
        intro G lk _
        simp only [List.set_cons_succ, List.set_cons_zero] at lk
        repeat' (first | simp only [go_sem, Nat.reduceLT, Nat.reduceEqDiff, Nat.reduceAdd, Nat.reduceMul, Nat.reduceSub, Nat.reduceLeDiff, Int.reduceToNat, Int.reduceNeg, Int.reduceLT, Int.reduceLE, Int.reduceEq, reduceCtorEq, Int.natCast_zero, Int.natCast_one, Int.cast_ofNat_Int, Bool.not_not, false_eq_decide, true_eq_decide, hread0, hreadk, read_cons0, read_consk, astore_h0, astore_hk, hget0, hgetk, hset0, hsetk, hlen, hcat, Nat.add_assoc, Nat.add_zero, Nat.zero_add, List.length_append, and_true, true_and, AV.flat, like_read lk, like_read0 lk, like_readA lk, like_readA0 lk, like_get lk, like_get0 lk, like_getA lk, like_getA0 lk, *, -hK, -hk0, -ht0, -hn0, -hv0, -hf0, -hd0, -hu0, -hy0, -hkl, -cp] | refine WC.call (cp _) ?_ | with_reducible refine IfB_dec (fun h => ?_) (fun h => ?_) | with_reducible refine Guard_dec (fun h => ?_) (fun h => ?_) | with_reducible refine Guard_ndec (fun h => ?_) (fun h => ?_) | with_reducible refine Guard_not (fun h => ?_) (fun h => ?_) | with_reducible refine IfB_ndec (fun h => ?_) (fun h => ?_) | with_reducible refine IfB_not (fun h => ?_) (fun h => ?_) | with_reducible refine Guard_split (fun h => ?_) (fun h => ?_) | with_reducible refine IfB_split (fun h => ?_) (fun h => ?_))
        refine (Number_lk (k := 1) (s := s6) lk rfl (by omega) 1099511627776 (by omega)).mono ?_
        rintro r G ⟨rfl, lk, -⟩
        simp only [hd0, List.set_cons_succ, List.set_cons_zero, RS.blk] at lk ⊢
        repeat' (first | simp only [go_sem, Nat.reduceLT, Nat.reduceEqDiff, Nat.reduceAdd, Nat.reduceMul, Nat.reduceSub, Nat.reduceLeDiff, Int.reduceToNat, Int.reduceNeg, Int.reduceLT, Int.reduceLE, Int.reduceEq, reduceCtorEq, Int.natCast_zero, Int.natCast_one, Int.cast_ofNat_Int, Bool.not_not, false_eq_decide, true_eq_decide, hread0, hreadk, read_cons0, read_consk, astore_h0, astore_hk, hget0, hgetk, hset0, hsetk, hlen, hcat, Nat.add_assoc, Nat.add_zero, Nat.zero_add, List.length_append, and_true, true_and, AV.flat, like_read lk, like_read0 lk, like_readA lk, like_readA0 lk, like_get lk, like_get0 lk, like_getA lk, like_getA0 lk, *, -hK, -hk0, -ht0, -hn0, -hv0, -hf0, -hd0, -hu0, -hy0, -hkl, -cp] | with_reducible refine IfB_dec (fun h => ?_) (fun h => ?_) | with_reducible refine Guard_dec (fun h => ?_) (fun h => ?_) | with_reducible refine Guard_ndec (fun h => ?_) (fun h => ?_) | with_reducible refine Guard_not (fun h => ?_) (fun h => ?_) | with_reducible refine IfB_ndec (fun h => ?_) (fun h => ?_) | with_reducible refine IfB_not (fun h => ?_) (fun h => ?_) | with_reducible refine Guard_split (fun h => ?_) (fun h => ?_) | with_reducible refine IfB_split (fun h => ?_) (fun h => ?_))
        refine like_store lk (k := 2) rfl rfl (by simp only [asize, td9, td43, td3, td27, Option.map_some]) rfl (by simp) ?_
        intro G lk _
        simp only [List.set_cons_succ, List.set_cons_zero] at lk
        repeat' (first | simp only [go_sem, Nat.reduceLT, Nat.reduceEqDiff, Nat.reduceAdd, Nat.reduceMul, Nat.reduceSub, Nat.reduceLeDiff, Int.reduceToNat, Int.reduceNeg, Int.reduceLT, Int.reduceLE, Int.reduceEq, reduceCtorEq, Int.natCast_zero, Int.natCast_one, Int.cast_ofNat_Int, Bool.not_not, false_eq_decide, true_eq_decide, hread0, hreadk, read_cons0, read_consk, astore_h0, astore_hk, hget0, hgetk, hset0, hsetk, hlen, hcat, Nat.add_assoc, Nat.add_zero, Nat.zero_add, List.length_append, and_true, true_and, AV.flat, like_read lk, like_read0 lk, like_readA lk, like_readA0 lk, like_get lk, like_get0 lk, like_getA lk, like_getA0 lk, *, -hK, -hk0, -ht0, -hn0, -hv0, -hf0, -hd0, -hu0, -hy0, -hkl, -cp] | refine WC.call (cp _) ?_ | with_reducible refine IfB_dec (fun h => ?_) (fun h => ?_) | with_reducible refine Guard_dec (fun h => ?_) (fun h => ?_) | with_reducible refine Guard_ndec (fun h => ?_) (fun h => ?_) | with_reducible refine Guard_not (fun h => ?_) (fun h => ?_) | with_reducible refine IfB_ndec (fun h => ?_) (fun h => ?_) | with_reducible refine IfB_not (fun h => ?_) (fun h => ?_) | with_reducible refine Guard_split (fun h => ?_) (fun h => ?_) | with_reducible refine IfB_split (fun h => ?_) (fun h => ?_))
        refine (Number_lk (k := 1) (s := s7) lk rfl (by omega) 18446744073709551615 (by omega)).mono ?_
        rintro r G ⟨rfl, lk, -⟩
        simp only [hu0, List.set_cons_succ, List.set_cons_zero, RS.blk] at lk ⊢
        repeat' (first | simp only [go_sem, Nat.reduceLT, Nat.reduceEqDiff, Nat.reduceAdd, Nat.reduceMul, Nat.reduceSub, Nat.reduceLeDiff, Int.reduceToNat, Int.reduceNeg, Int.reduceLT, Int.reduceLE, Int.reduceEq, reduceCtorEq, Int.natCast_zero, Int.natCast_one, Int.cast_ofNat_Int, Bool.not_not, false_eq_decide, true_eq_decide, hread0, hreadk, read_cons0, read_consk, astore_h0, astore_hk, hget0, hgetk, hset0, hsetk, hlen, hcat, Nat.add_assoc, Nat.add_zero, Nat.zero_add, List.length_append, and_true, true_and, AV.flat, like_read lk, like_read0 lk, like_readA lk, like_readA0 lk, like_get lk, like_get0 lk, like_getA lk, like_getA0 lk, *, -hK, -hk0, -ht0, -hn0, -hv0, -hf0, -hd0, -hu0, -hy0, -hkl, -cp] | with_reducible refine IfB_dec (fun h => ?_) (fun h => ?_) | with_reducible refine Guard_dec (fun h => ?_) (fun h => ?_) | with_reducible refine Guard_ndec (fun h => ?_) (fun h => ?_) | with_reducible refine Guard_not (fun h => ?_) (fun h => ?_) | with_reducible refine IfB_ndec (fun h => ?_) (fun h => ?_) | with_reducible refine IfB_not (fun h => ?_) (fun h => ?_) | with_reducible refine Guard_split (fun h => ?_) (fun h => ?_) | with_reducible refine IfB_split (fun h => ?_) (fun h => ?_))
        refine like_store lk (k := 2) rfl rfl (by simp only [asize, td9, td43, td3, td27, Option.map_some]) rfl (by simp) ?_
        intro G lk _
        simp only [List.set_cons_succ, List.set_cons_zero] at lk
        repeat' (first | simp only [go_sem, Nat.reduceLT, Nat.reduceEqDiff, Nat.reduceAdd, Nat.reduceMul, Nat.reduceSub, Nat.reduceLeDiff, Int.reduceToNat, Int.reduceNeg, Int.reduceLT, Int.reduceLE, Int.reduceEq, reduceCtorEq, Int.natCast_zero, Int.natCast_one, Int.cast_ofNat_Int, Bool.not_not, false_eq_decide, true_eq_decide, hread0, hreadk, read_cons0, read_consk, astore_h0, astore_hk, hget0, hgetk, hset0, hsetk, hlen, hcat, Nat.add_assoc, Nat.add_zero, Nat.zero_add, List.length_append, and_true, true_and, AV.flat, like_read lk, like_read0 lk, like_readA lk, like_readA0 lk, like_get lk, like_get0 lk, like_getA lk, like_getA0 lk, *, -hK, -hk0, -ht0, -hn0, -hv0, -hf0, -hd0, -hu0, -hy0, -hkl, -cp] | refine WC.call (cp _) ?_ | with_reducible refine IfB_dec (fun h => ?_) (fun h => ?_) | with_reducible refine Guard_dec (fun h => ?_) (fun h => ?_) | with_reducible refine Guard_ndec (fun h => ?_) (fun h => ?_) | with_reducible refine Guard_not (fun h => ?_) (fun h => ?_) | with_reducible refine IfB_ndec (fun h => ?_) (fun h => ?_) | with_reducible refine IfB_not (fun h => ?_) (fun h => ?_) | with_reducible refine Guard_split (fun h => ?_) (fun h => ?_) | with_reducible refine IfB_split (fun h => ?_) (fun h => ?_))
        refine (Number_lk (k := 1) (s := s8) lk rfl (by omega) 18446744073709551615 (by omega)).mono ?_
        rintro r G ⟨rfl, lk, -⟩
        simp only [hy0, List.set_cons_succ, List.set_cons_zero, RS.blk] at lk ⊢
        repeat' (first | simp only [go_sem, Nat.reduceLT, Nat.reduceEqDiff, Nat.reduceAdd, Nat.reduceMul, Nat.reduceSub, Nat.reduceLeDiff, Int.reduceToNat, Int.reduceNeg, Int.reduceLT, Int.reduceLE, Int.reduceEq, reduceCtorEq, Int.natCast_zero, Int.natCast_one, Int.cast_ofNat_Int, Bool.not_not, false_eq_decide, true_eq_decide, hread0, hreadk, read_cons0, read_consk, astore_h0, astore_hk, hget0, hgetk, hset0, hsetk, hlen, hcat, Nat.add_assoc, Nat.add_zero, Nat.zero_add, List.length_append, and_true, true_and, AV.flat, like_read lk, like_read0 lk, like_readA lk, like_readA0 lk, like_get lk, like_get0 lk, like_getA lk, like_getA0 lk, *, -hK, -hk0, -ht0, -hn0, -hv0, -hf0, -hd0, -hu0, -hy0, -hkl, -cp] | with_reducible refine IfB_dec (fun h => ?_) (fun h => ?_) | with_reducible refine Guard_dec (fun h => ?_) (fun h => ?_) | with_reducible refine Guard_ndec (fun h => ?_) (fun h => ?_) | with_reducible refine Guard_not (fun h => ?_) (fun h => ?_) | with_reducible refine IfB_ndec (fun h => ?_) (fun h => ?_) | with_reducible refine IfB_not (fun h => ?_) (fun h => ?_) | with_reducible refine Guard_split (fun h => ?_) (fun h => ?_) | with_reducible refine IfB_split (fun h => ?_) (fun h => ?_))
        refine like_store lk (k := 2) rfl rfl (by simp only [asize, td9, td43, td3, td27, Option.map_some]) rfl (by simp) ?_
        intro G lk _
        simp only [List.set_cons_succ, List.set_cons_zero] at lk
        repeat' (first | simp only [go_sem, Nat.reduceLT, Nat.reduceEqDiff, Nat.reduceAdd, Nat.reduceMul, Nat.reduceSub, Nat.reduceLeDiff, Int.reduceToNat, Int.reduceNeg, Int.reduceLT, Int.reduceLE, Int.reduceEq, reduceCtorEq, Int.natCast_zero, Int.natCast_one, Int.cast_ofNat_Int, Bool.not_not, false_eq_decide, true_eq_decide, hread0, hreadk, read_cons0, read_consk, astore_h0, astore_hk, hget0, hgetk, hset0, hsetk, hlen, hcat, Nat.add_assoc, Nat.add_zero, Nat.zero_add, List.length_append, and_true, true_and, AV.flat, like_read lk, like_read0 lk, like_readA lk, like_readA0 lk, like_get lk, like_get0 lk, like_getA lk, like_getA0 lk, *, -hK, -hk0, -ht0, -hn0, -hv0, -hf0, -hd0, -hu0, -hy0, -hkl, -cp] | refine WC.call (cp _) ?_ | with_reducible refine IfB_dec (fun h => ?_) (fun h => ?_) | with_reducible refine Guard_dec (fun h => ?_) (fun h => ?_) | with_reducible refine Guard_ndec (fun h => ?_) (fun h => ?_) | with_reducible refine Guard_not (fun h => ?_) (fun h => ?_) | with_reducible refine IfB_ndec (fun h => ?_) (fun h => ?_) | with_reducible refine IfB_not (fun h => ?_) (fun h => ?_) | with_reducible refine Guard_split (fun h => ?_) (fun h => ?_) | with_reducible refine IfB_split (fun h => ?_) (fun h => ?_))
        all_goals
          have hz := like_at0 lk rfl
          repeat' (first | simp only [go_sem, Nat.reduceLT, Nat.reduceEqDiff, Nat.reduceAdd, Nat.reduceMul, Nat.reduceSub, Nat.reduceLeDiff, Int.reduceToNat, Int.reduceNeg, Int.reduceLT, Int.reduceLE, Int.reduceEq, reduceCtorEq, Int.natCast_zero, Int.natCast_one, Int.cast_ofNat_Int, Bool.not_not, false_eq_decide, true_eq_decide, hread0, hreadk, read_cons0, read_consk, astore_h0, astore_hk, hget0, hgetk, hset0, hsetk, hlen, hcat, Nat.add_assoc, Nat.add_zero, Nat.zero_add, List.length_append, and_true, true_and, AV.flat, hz, get_app hz, read_get hz, read_app hz, astore_get hz, astore_app hz, get_set hz, get_set_app hz, read_set hz, read_set_app hz, astore_set hz, astore_set_app hz, List.set_set, hget0s, hgetks, hread0s, hreadks, List.length_set, like_read lk, like_read0 lk, like_readA lk, like_readA0 lk, like_get lk, like_get0 lk, like_getA lk, like_getA0 lk, *, -hK, -hk0, -ht0, -hn0, -hv0, -hf0, -hd0, -hu0, -hy0, -hkl, -cp] | refine WC.call (cp _) ?_ | with_reducible refine IfB_dec (fun h => ?_) (fun h => ?_) | with_reducible refine Guard_dec (fun h => ?_) (fun h => ?_) | with_reducible refine Guard_ndec (fun h => ?_) (fun h => ?_) | with_reducible refine Guard_not (fun h => ?_) (fun h => ?_) | with_reducible refine IfB_ndec (fun h => ?_) (fun h => ?_) | with_reducible refine IfB_not (fun h => ?_) (fun h => ?_) | with_reducible refine Guard_split (fun h => ?_) (fun h => ?_) | with_reducible refine IfB_split (fun h => ?_) (fun h => ?_))
          all_goals first
            | exact hK _ _ (Thaw.tup_row ⟨Thaw.agg_row ⟨.int _ _, .int _ _, .lst _ _, .str _, .int _ _, .int _ _, .int _ _, .int _ _, trivial⟩, .int _ _, trivial⟩) (hout _ _ _ lk)
            | exact absurd ⟨‹_›, ‹_›, ‹_›⟩ hx
            | trace_state
      · clear hexit hlt
        repeat' (first | simp only [go_sem, Nat.reduceLT, Nat.reduceEqDiff, Nat.reduceAdd, Nat.reduceMul, Nat.reduceSub, Nat.reduceLeDiff, Int.reduceToNat, Int.reduceNeg, Int.reduceLT, Int.reduceLE, Int.reduceEq, reduceCtorEq, Int.natCast_zero, Int.natCast_one, Int.cast_ofNat_Int, Bool.not_not, false_eq_decide, true_eq_decide, hread0, hreadk, read_cons0, read_consk, astore_h0, astore_hk, hget0, hgetk, hset0, hsetk, hlen, hcat, Nat.add_assoc, Nat.add_zero, Nat.zero_add, List.length_append, and_true, true_and, AV.flat, like_read lk1, like_read0 lk1, like_readA lk1, like_readA0 lk1, like_get lk1, like_get0 lk1, like_getA lk1, like_getA0 lk1, *, -hK, -hk0, -ht0, -hn0, -hv0, -hf0, -hd0, -hu0, -hy0, -hend, -hkl, -cp] | with_reducible refine IfB_dec (fun h => ?_) (fun h => ?_) | with_reducible refine Guard_dec (fun h => ?_) (fun h => ?_) | with_reducible refine Guard_ndec (fun h => ?_) (fun h => ?_) | with_reducible refine Guard_not (fun h => ?_) (fun h => ?_) | with_reducible refine IfB_ndec (fun h => ?_) (fun h => ?_) | with_reducible refine IfB_not (fun h => ?_) (fun h => ?_) | with_reducible refine Guard_split (fun h => ?_) (fun h => ?_) | with_reducible refine IfB_split (fun h => ?_) (fun h => ?_))
        all_goals
          clear hend
          clear hsb
          have lk := lk1
          clear lk1
          refine (Text_lk (k := 1) (s := s) lk rfl (by omega)).mono ?_
          rintro r G ⟨rfl, lk, -⟩
          simp only [hv0, List.set_cons_succ, List.set_cons_zero, RS.blk] at lk ⊢
          repeat' (first | simp only [go_sem, Nat.reduceLT, Nat.reduceEqDiff, Nat.reduceAdd, Nat.reduceMul, Nat.reduceSub, Nat.reduceLeDiff, Int.reduceToNat, Int.reduceNeg, Int.reduceLT, Int.reduceLE, Int.reduceEq, reduceCtorEq, Int.natCast_zero, Int.natCast_one, Int.cast_ofNat_Int, Bool.not_not, false_eq_decide, true_eq_decide, hread0, hreadk, read_cons0, read_consk, astore_h0, astore_hk, hget0, hgetk, hset0, hsetk, hlen, hcat, Nat.add_assoc, Nat.add_zero, Nat.zero_add, List.length_append, and_true, true_and, AV.flat, like_read lk, like_read0 lk, like_readA lk, like_readA0 lk, like_get lk, like_get0 lk, like_getA lk, like_getA0 lk, *, -hK, -hk0, -ht0, -hn0, -hv0, -hf0, -hd0, -hu0, -hy0, -hkl, -cp] | with_reducible refine IfB_dec (fun h => ?_) (fun h => ?_) | with_reducible refine Guard_dec (fun h => ?_) (fun h => ?_) | with_reducible refine Guard_ndec (fun h => ?_) (fun h => ?_) | with_reducible refine Guard_not (fun h => ?_) (fun h => ?_) | with_reducible refine IfB_ndec (fun h => ?_) (fun h => ?_) | with_reducible refine IfB_not (fun h => ?_) (fun h => ?_) | with_reducible refine Guard_split (fun h => ?_) (fun h => ?_) | with_reducible refine IfB_split (fun h => ?_) (fun h => ?_))
          refine like_store lk (k := 2) rfl rfl (by simp only [asize, td9, td43, td3, td27, Option.map_some]) rfl (by simp) ?_
          intro G lk _
          simp only [List.set_cons_succ, List.set_cons_zero] at lk
          repeat' (first | simp only [go_sem, Nat.reduceLT, Nat.reduceEqDiff, Nat.reduceAdd, Nat.reduceMul, Nat.reduceSub, Nat.reduceLeDiff, Int.reduceToNat, Int.reduceNeg, Int.reduceLT, Int.reduceLE, Int.reduceEq, reduceCtorEq, Int.natCast_zero, Int.natCast_one, Int.cast_ofNat_Int, Bool.not_not, false_eq_decide, true_eq_decide, hread0, hreadk, read_cons0, read_consk, astore_h0, astore_hk, hget0, hgetk, hset0, hsetk, hlen, hcat, Nat.add_assoc, Nat.add_zero, Nat.zero_add, List.length_append, and_true, true_and, AV.flat, like_read lk, like_read0 lk, like_readA lk, like_readA0 lk, like_get lk, like_get0 lk, like_getA lk, like_getA0 lk, *, -hK, -hk0, -ht0, -hn0, -hv0, -hf0, -hd0, -hu0, -hy0, -hkl, -cp] | refine WC.call (cp _) ?_ | with_reducible refine IfB_dec (fun h => ?_) (fun h => ?_) | with_reducible refine Guard_dec (fun h => ?_) (fun h => ?_) | with_reducible refine Guard_ndec (fun h => ?_) (fun h => ?_) | with_reducible refine Guard_not (fun h => ?_) (fun h => ?_) | with_reducible refine IfB_ndec (fun h => ?_) (fun h => ?_) | with_reducible refine IfB_not (fun h => ?_) (fun h => ?_) | with_reducible refine Guard_split (fun h => ?_) (fun h => ?_) | with_reducible refine IfB_split (fun h => ?_) (fun h => ?_))
          refine (Number_lk (k := 1) (s := s5) lk rfl (by omega) 4294967295 (by omega)).mono ?_
          rintro r G ⟨rfl, lk, -⟩
          simp only [hf0, List.set_cons_succ, List.set_cons_zero, RS.blk] at lk ⊢
          repeat' (first | simp only [go_sem, Nat.reduceLT, Nat.reduceEqDiff, Nat.reduceAdd, Nat.reduceMul, Nat.reduceSub, Nat.reduceLeDiff, Int.reduceToNat, Int.reduceNeg, Int.reduceLT, Int.reduceLE, Int.reduceEq, reduceCtorEq, Int.natCast_zero, Int.natCast_one, Int.cast_ofNat_Int, Bool.not_not, false_eq_decide, true_eq_decide, hread0, hreadk, read_cons0, read_consk, astore_h0, astore_hk, hget0, hgetk, hset0, hsetk, hlen, hcat, Nat.add_assoc, Nat.add_zero, Nat.zero_add, List.length_append, and_true, true_and, AV.flat, like_read lk, like_read0 lk, like_readA lk, like_readA0 lk, like_get lk, like_get0 lk, like_getA lk, like_getA0 lk, *, -hK, -hk0, -ht0, -hn0, -hv0, -hf0, -hd0, -hu0, -hy0, -hkl, -cp] | with_reducible refine IfB_dec (fun h => ?_) (fun h => ?_) | with_reducible refine Guard_dec (fun h => ?_) (fun h => ?_) | with_reducible refine Guard_ndec (fun h => ?_) (fun h => ?_) | with_reducible refine Guard_not (fun h => ?_) (fun h => ?_) | with_reducible refine IfB_ndec (fun h => ?_) (fun h => ?_) | with_reducible refine IfB_not (fun h => ?_) (fun h => ?_) | with_reducible refine Guard_split (fun h => ?_) (fun h => ?_) | with_reducible refine IfB_split (fun h => ?_) (fun h => ?_))
          refine like_store lk (k := 2) rfl rfl (by simp only [asize, td9, td43, td3, td27, Option.map_some]) rfl (by simp) ?_
          intro G lk _
          simp only [List.set_cons_succ, List.set_cons_zero] at lk
          repeat' (first | simp only [go_sem, Nat.reduceLT, Nat.reduceEqDiff, Nat.reduceAdd, Nat.reduceMul, Nat.reduceSub, Nat.reduceLeDiff, Int.reduceToNat, Int.reduceNeg, Int.reduceLT, Int.reduceLE, Int.reduceEq, reduceCtorEq, Int.natCast_zero, Int.natCast_one, Int.cast_ofNat_Int, Bool.not_not, false_eq_decide, true_eq_decide, hread0, hreadk, read_cons0, read_consk, astore_h0, astore_hk, hget0, hgetk, hset0, hsetk, hlen, hcat, Nat.add_assoc, Nat.add_zero, Nat.zero_add, List.length_append, and_true, true_and, AV.flat, like_read lk, like_read0 lk, like_readA lk, like_readA0 lk, like_get lk, like_get0 lk, like_getA lk, like_getA0 lk, *, -hK, -hk0, -ht0, -hn0, -hv0, -hf0, -hd0, -hu0, -hy0, -hkl, -cp] | refine WC.call (cp _) ?_ | with_reducible refine IfB_dec (fun h => ?_) (fun h => ?_) | with_reducible refine Guard_dec (fun h => ?_) (fun h => ?_) | with_reducible refine Guard_ndec (fun h => ?_) (fun h => ?_) | with_reducible refine Guard_not (fun h => ?_) (fun h => ?_) | with_reducible refine IfB_ndec (fun h => ?_) (fun h => ?_) | with_reducible refine IfB_not (fun h => ?_) (fun h => ?_) | with_reducible refine Guard_split (fun h => ?_) (fun h => ?_) | with_reducible refine IfB_split (fun h => ?_) (fun h => ?_))
          refine (Number_lk (k := 1) (s := s6) lk rfl (by omega) 1099511627776 (by omega)).mono ?_
          rintro r G ⟨rfl, lk, -⟩
          simp only [hd0, List.set_cons_succ, List.set_cons_zero, RS.blk] at lk ⊢
          repeat' (first | simp only [go_sem, Nat.reduceLT, Nat.reduceEqDiff, Nat.reduceAdd, Nat.reduceMul, Nat.reduceSub, Nat.reduceLeDiff, Int.reduceToNat, Int.reduceNeg, Int.reduceLT, Int.reduceLE, Int.reduceEq, reduceCtorEq, Int.natCast_zero, Int.natCast_one, Int.cast_ofNat_Int, Bool.not_not, false_eq_decide, true_eq_decide, hread0, hreadk, read_cons0, read_consk, astore_h0, astore_hk, hget0, hgetk, hset0, hsetk, hlen, hcat, Nat.add_assoc, Nat.add_zero, Nat.zero_add, List.length_append, and_true, true_and, AV.flat, like_read lk, like_read0 lk, like_readA lk, like_readA0 lk, like_get lk, like_get0 lk, like_getA lk, like_getA0 lk, *, -hK, -hk0, -ht0, -hn0, -hv0, -hf0, -hd0, -hu0, -hy0, -hkl, -cp] | with_reducible refine IfB_dec (fun h => ?_) (fun h => ?_) | with_reducible refine Guard_dec (fun h => ?_) (fun h => ?_) | with_reducible refine Guard_ndec (fun h => ?_) (fun h => ?_) | with_reducible refine Guard_not (fun h => ?_) (fun h => ?_) | with_reducible refine IfB_ndec (fun h => ?_) (fun h => ?_) | with_reducible refine IfB_not (fun h => ?_) (fun h => ?_) | with_reducible refine Guard_split (fun h => ?_) (fun h => ?_) | with_reducible refine IfB_split (fun h => ?_) (fun h => ?_))
          refine like_store lk (k := 2) rfl rfl (by simp only [asize, td9, td43, td3, td27, Option.map_some]) rfl (by simp) ?_
          intro G lk _
          simp only [List.set_cons_succ, List.set_cons_zero] at lk
          repeat' (first | simp only [go_sem, Nat.reduceLT, Nat.reduceEqDiff, Nat.reduceAdd, Nat.reduceMul, Nat.reduceSub, Nat.reduceLeDiff, Int.reduceToNat, Int.reduceNeg, Int.reduceLT, Int.reduceLE, Int.reduceEq, reduceCtorEq, Int.natCast_zero, Int.natCast_one, Int.cast_ofNat_Int, Bool.not_not, false_eq_decide, true_eq_decide, hread0, hreadk, read_cons0, read_consk, astore_h0, astore_hk, hget0, hgetk, hset0, hsetk, hlen, hcat, Nat.add_assoc, Nat.add_zero, Nat.zero_add, List.length_append, and_true, true_and, AV.flat, like_read lk, like_read0 lk, like_readA lk, like_readA0 lk, like_get lk, like_get0 lk, like_getA lk, like_getA0 lk, *, -hK, -hk0, -ht0, -hn0, -hv0, -hf0, -hd0, -hu0, -hy0, -hkl, -cp] | refine WC.call (cp _) ?_ | with_reducible refine IfB_dec (fun h => ?_) (fun h => ?_) | with_reducible refine Guard_dec (fun h => ?_) (fun h => ?_) | with_reducible refine Guard_ndec (fun h => ?_) (fun h => ?_) | with_reducible refine Guard_not (fun h => ?_) (fun h => ?_) | with_reducible refine IfB_ndec (fun h => ?_) (fun h => ?_) | with_reducible refine IfB_not (fun h => ?_) (fun h => ?_) | with_reducible refine Guard_split (fun h => ?_) (fun h => ?_) | with_reducible refine IfB_split (fun h => ?_) (fun h => ?_))
          refine (Number_lk (k := 1) (s := s7) lk rfl (by omega) 18446744073709551615 (by omega)).mono ?_
          rintro r G ⟨rfl, lk, -⟩
          simp only [hu0, List.set_cons_succ, List.set_cons_zero, RS.blk] at lk ⊢
          repeat' (first | simp only [go_sem, Nat.reduceLT, Nat.reduceEqDiff, Nat.reduceAdd, Nat.reduceMul, Nat.reduceSub, Nat.reduceLeDiff, Int.reduceToNat, Int.reduceNeg, Int.reduceLT, Int.reduceLE, Int.reduceEq, reduceCtorEq, Int.natCast_zero, Int.natCast_one, Int.cast_ofNat_Int, Bool.not_not, false_eq_decide, true_eq_decide, hread0, hreadk, read_cons0, read_consk, astore_h0, astore_hk, hget0, hgetk, hset0, hsetk, hlen, hcat, Nat.add_assoc, Nat.add_zero, Nat.zero_add, List.length_append, and_true, true_and, AV.flat, like_read lk, like_read0 lk, like_readA lk, like_readA0 lk, like_get lk, like_get0 lk, like_getA lk, like_getA0 lk, *, -hK, -hk0, -ht0, -hn0, -hv0, -hf0, -hd0, -hu0, -hy0, -hkl, -cp] | with_reducible refine IfB_dec (fun h => ?_) (fun h => ?_) | with_reducible refine Guard_dec (fun h => ?_) (fun h => ?_) | with_reducible refine Guard_ndec (fun h => ?_) (fun h => ?_) | with_reducible refine Guard_not (fun h => ?_) (fun h => ?_) | with_reducible refine IfB_ndec (fun h => ?_) (fun h => ?_) | with_reducible refine IfB_not (fun h => ?_) (fun h => ?_) | with_reducible refine Guard_split (fun h => ?_) (fun h => ?_) | with_reducible refine IfB_split (fun h => ?_) (fun h => ?_))
          refine like_store lk (k := 2) rfl rfl (by simp only [asize, td9, td43, td3, td27, Option.map_some]) rfl (by simp) ?_
          intro G lk _
          simp only [List.set_cons_succ, List.set_cons_zero] at lk
          repeat' (first | simp only [go_sem, Nat.reduceLT, Nat.reduceEqDiff, Nat.reduceAdd, Nat.reduceMul, Nat.reduceSub, Nat.reduceLeDiff, Int.reduceToNat, Int.reduceNeg, Int.reduceLT, Int.reduceLE, Int.reduceEq, reduceCtorEq, Int.natCast_zero, Int.natCast_one, Int.cast_ofNat_Int, Bool.not_not, false_eq_decide, true_eq_decide, hread0, hreadk, read_cons0, read_consk, astore_h0, astore_hk, hget0, hgetk, hset0, hsetk, hlen, hcat, Nat.add_assoc, Nat.add_zero, Nat.zero_add, List.length_append, and_true, true_and, AV.flat, like_read lk, like_read0 lk, like_readA lk, like_readA0 lk, like_get lk, like_get0 lk, like_getA lk, like_getA0 lk, *, -hK, -hk0, -ht0, -hn0, -hv0, -hf0, -hd0, -hu0, -hy0, -hkl, -cp] | refine WC.call (cp _) ?_ | with_reducible refine IfB_dec (fun h => ?_) (fun h => ?_) | with_reducible refine Guard_dec (fun h => ?_) (fun h => ?_) | with_reducible refine Guard_ndec (fun h => ?_) (fun h => ?_) | with_reducible refine Guard_not (fun h => ?_) (fun h => ?_) | with_reducible refine IfB_ndec (fun h => ?_) (fun h => ?_) | with_reducible refine IfB_not (fun h => ?_) (fun h => ?_) | with_reducible refine Guard_split (fun h => ?_) (fun h => ?_) | with_reducible refine IfB_split (fun h => ?_) (fun h => ?_))
          refine (Number_lk (k := 1) (s := s8) lk rfl (by omega) 18446744073709551615 (by omega)).mono ?_
          rintro r G ⟨rfl, lk, -⟩
          simp only [hy0, List.set_cons_succ, List.set_cons_zero, RS.blk] at lk ⊢
          repeat' (first | simp only [go_sem, Nat.reduceLT, Nat.reduceEqDiff, Nat.reduceAdd, Nat.reduceMul, Nat.reduceSub, Nat.reduceLeDiff, Int.reduceToNat, Int.reduceNeg, Int.reduceLT, Int.reduceLE, Int.reduceEq, reduceCtorEq, Int.natCast_zero, Int.natCast_one, Int.cast_ofNat_Int, Bool.not_not, false_eq_decide, true_eq_decide, hread0, hreadk, read_cons0, read_consk, astore_h0, astore_hk, hget0, hgetk, hset0, hsetk, hlen, hcat, Nat.add_assoc, Nat.add_zero, Nat.zero_add, List.length_append, and_true, true_and, AV.flat, like_read lk, like_read0 lk, like_readA lk, like_readA0 lk, like_get lk, like_get0 lk, like_getA lk, like_getA0 lk, *, -hK, -hk0, -ht0, -hn0, -hv0, -hf0, -hd0, -hu0, -hy0, -hkl, -cp] | with_reducible refine IfB_dec (fun h => ?_) (fun h => ?_) | with_reducible refine Guard_dec (fun h => ?_) (fun h => ?_) | with_reducible refine Guard_ndec (fun h => ?_) (fun h => ?_) | with_reducible refine Guard_not (fun h => ?_) (fun h => ?_) | with_reducible refine IfB_ndec (fun h => ?_) (fun h => ?_) | with_reducible refine IfB_not (fun h => ?_) (fun h => ?_) | with_reducible refine Guard_split (fun h => ?_) (fun h => ?_) | with_reducible refine IfB_split (fun h => ?_) (fun h => ?_))
          refine like_store lk (k := 2) rfl rfl (by simp only [asize, td9, td43, td3, td27, Option.map_some]) rfl (by simp) ?_
          intro G lk _
          simp only [List.set_cons_succ, List.set_cons_zero] at lk
          repeat' (first | simp only [go_sem, Nat.reduceLT, Nat.reduceEqDiff, Nat.reduceAdd, Nat.reduceMul, Nat.reduceSub, Nat.reduceLeDiff, Int.reduceToNat, Int.reduceNeg, Int.reduceLT, Int.reduceLE, Int.reduceEq, reduceCtorEq, Int.natCast_zero, Int.natCast_one, Int.cast_ofNat_Int, Bool.not_not, false_eq_decide, true_eq_decide, hread0, hreadk, read_cons0, read_consk, astore_h0, astore_hk, hget0, hgetk, hset0, hsetk, hlen, hcat, Nat.add_assoc, Nat.add_zero, Nat.zero_add, List.length_append, and_true, true_and, AV.flat, like_read lk, like_read0 lk, like_readA lk, like_readA0 lk, like_get lk, like_get0 lk, like_getA lk, like_getA0 lk, *, -hK, -hk0, -ht0, -hn0, -hv0, -hf0, -hd0, -hu0, -hy0, -hkl, -cp] | refine WC.call (cp _) ?_ | with_reducible refine IfB_dec (fun h => ?_) (fun h => ?_) | with_reducible refine Guard_dec (fun h => ?_) (fun h => ?_) | with_reducible refine Guard_ndec (fun h => ?_) (fun h => ?_) | with_reducible refine Guard_not (fun h => ?_) (fun h => ?_) | with_reducible refine IfB_ndec (fun h => ?_) (fun h => ?_) | with_reducible refine IfB_not (fun h => ?_) (fun h => ?_) | with_reducible refine Guard_split (fun h => ?_) (fun h => ?_) | with_reducible refine IfB_split (fun h => ?_) (fun h => ?_))
          all_goals
            have hz := like_at0 lk rfl
            repeat' (first | simp only [go_sem, Nat.reduceLT, Nat.reduceEqDiff, Nat.reduceAdd, Nat.reduceMul, Nat.reduceSub, Nat.reduceLeDiff, Int.reduceToNat, Int.reduceNeg, Int.reduceLT, Int.reduceLE, Int.reduceEq, reduceCtorEq, Int.natCast_zero, Int.natCast_one, Int.cast_ofNat_Int, Bool.not_not, false_eq_decide, true_eq_decide, hread0, hreadk, read_cons0, read_consk, astore_h0, astore_hk, hget0, hgetk, hset0, hsetk, hlen, hcat, Nat.add_assoc, Nat.add_zero, Nat.zero_add, List.length_append, and_true, true_and, AV.flat, hz, get_app hz, read_get hz, read_app hz, astore_get hz, astore_app hz, get_set hz, get_set_app hz, read_set hz, read_set_app hz, astore_set hz, astore_set_app hz, List.set_set, hget0s, hgetks, hread0s, hreadks, List.length_set, like_read lk, like_read0 lk, like_readA lk, like_readA0 lk, like_get lk, like_get0 lk, like_getA lk, like_getA0 lk, *, -hK, -hk0, -ht0, -hn0, -hv0, -hf0, -hd0, -hu0, -hy0, -hkl, -cp] | refine WC.call (cp _) ?_ | with_reducible refine IfB_dec (fun h => ?_) (fun h => ?_) | with_reducible refine Guard_dec (fun h => ?_) (fun h => ?_) | with_reducible refine Guard_ndec (fun h => ?_) (fun h => ?_) | with_reducible refine Guard_not (fun h => ?_) (fun h => ?_) | with_reducible refine IfB_ndec (fun h => ?_) (fun h => ?_) | with_reducible refine IfB_not (fun h => ?_) (fun h => ?_) | with_reducible refine Guard_split (fun h => ?_) (fun h => ?_) | with_reducible refine IfB_split (fun h => ?_) (fun h => ?_))
            all_goals first
              | exact hK _ _ (Thaw.tup_row ⟨Thaw.agg_row ⟨.int _ _, .int _ _, .lst _ _, .str _, .int _ _, .int _ _, .int _ _, .int _ _, trivial⟩, .int _ _, trivial⟩) (hout _ _ _ lk)
              | exact absurd ⟨‹_›, ‹_›, ‹_›⟩ hx
              | trace_state
    · rw [hbad hx] at hK
      simp only [Cmd.av, cmd0] at hK
      clear hbad hgood hok hce
      cases hsb : s.bad
      · have h1 : ¬ (i : Int) < n0 := fun h => by have := hexit h; rw [hsb] at this; cases this
        clear hexit hlt
        repeat' (first | simp only [go_sem, Nat.reduceLT, Nat.reduceEqDiff, Nat.reduceAdd, Nat.reduceMul, Nat.reduceSub, Nat.reduceLeDiff, Int.reduceToNat, Int.reduceNeg, Int.reduceLT, Int.reduceLE, Int.reduceEq, reduceCtorEq, Int.natCast_zero, Int.natCast_one, Int.cast_ofNat_Int, Bool.not_not, false_eq_decide, true_eq_decide, hread0, hreadk, read_cons0, read_consk, astore_h0, astore_hk, hget0, hgetk, hset0, hsetk, hlen, hcat, Nat.add_assoc, Nat.add_zero, Nat.zero_add, List.length_append, and_true, true_and, AV.flat, like_read lk1, like_read0 lk1, like_readA lk1, like_readA0 lk1, like_get lk1, like_get0 lk1, like_getA lk1, like_getA0 lk1, *, -hK, -hk0, -ht0, -hn0, -hv0, -hf0, -hd0, -hu0, -hy0, -hend, -hkl, -cp, -hx] | with_reducible refine IfB_dec (fun h => ?_) (fun h => ?_) | with_reducible refine Guard_dec (fun h => ?_) (fun h => ?_) | with_reducible refine Guard_ndec (fun h => ?_) (fun h => ?_) | with_reducible refine Guard_not (fun h => ?_) (fun h => ?_) | with_reducible refine IfB_ndec (fun h => ?_) (fun h => ?_) | with_reducible refine IfB_not (fun h => ?_) (fun h => ?_) | with_reducible refine Guard_split (fun h => ?_) (fun h => ?_) | with_reducible refine IfB_split (fun h => ?_) (fun h => ?_))
        clear hend
        clear hsb
        have lk := lk1
        clear lk1
        refine (Text_lk (k := 1) (s := s) lk rfl (by omega)).mono ?_
        rintro r G ⟨rfl, lk, -⟩
        simp only [hv0, List.set_cons_succ, List.set_cons_zero, RS.blk] at lk ⊢
        repeat' (first | simp only [go_sem, Nat.reduceLT, Nat.reduceEqDiff, Nat.reduceAdd, Nat.reduceMul, Nat.reduceSub, Nat.reduceLeDiff, Int.reduceToNat, Int.reduceNeg, Int.reduceLT, Int.reduceLE, Int.reduceEq, reduceCtorEq, Int.natCast_zero, Int.natCast_one, Int.cast_ofNat_Int, Bool.not_not, false_eq_decide, true_eq_decide, hread0, hreadk, read_cons0, read_consk, astore_h0, astore_hk, hget0, hgetk, hset0, hsetk, hlen, hcat, Nat.add_assoc, Nat.add_zero, Nat.zero_add, List.length_append, and_true, true_and, AV.flat, like_read lk, like_read0 lk, like_readA lk, like_readA0 lk, like_get lk, like_get0 lk, like_getA lk, like_getA0 lk, *, -hK, -hk0, -ht0, -hn0, -hv0, -hf0, -hd0, -hu0, -hy0, -hkl, -cp, -hx] | with_reducible refine IfB_dec (fun h => ?_) (fun h => ?_) | with_reducible refine Guard_dec (fun h => ?_) (fun h => ?_) | with_reducible refine Guard_ndec (fun h => ?_) (fun h => ?_) | with_reducible refine Guard_not (fun h => ?_) (fun h => ?_) | with_reducible refine IfB_ndec (fun h => ?_) (fun h => ?_) | with_reducible refine IfB_not (fun h => ?_) (fun h => ?_) | with_reducible refine Guard_split (fun h => ?_) (fun h => ?_) | with_reducible refine IfB_split (fun h => ?_) (fun h => ?_))
        refine like_store lk (k := 2) rfl rfl (by simp only [asize, td9, td43, td3, td27, Option.map_some]) rfl (by simp) ?_
        intro G lk _
        simp only [List.set_cons_succ, List.set_cons_zero] at lk
        repeat' (first | simp only [go_sem, Nat.reduceLT, Nat.reduceEqDiff, Nat.reduceAdd, Nat.reduceMul, Nat.reduceSub, Nat.reduceLeDiff, Int.reduceToNat, Int.reduceNeg, Int.reduceLT, Int.reduceLE, Int.reduceEq, reduceCtorEq, Int.natCast_zero, Int.natCast_one, Int.cast_ofNat_Int, Bool.not_not, false_eq_decide, true_eq_decide, hread0, hreadk, read_cons0, read_consk, astore_h0, astore_hk, hget0, hgetk, hset0, hsetk, hlen, hcat, Nat.add_assoc, Nat.add_zero, Nat.zero_add, List.length_append, and_true, true_and, AV.flat, like_read lk, like_read0 lk, like_readA lk, like_readA0 lk, like_get lk, like_get0 lk, like_getA lk, like_getA0 lk, *, -hK, -hk0, -ht0, -hn0, -hv0, -hf0, -hd0, -hu0, -hy0, -hkl, -cp, -hx] | refine WC.call (cp _) ?_ | with_reducible refine IfB_dec (fun h => ?_) (fun h => ?_) | with_reducible refine Guard_dec (fun h => ?_) (fun h => ?_) | with_reducible refine Guard_ndec (fun h => ?_) (fun h => ?_) | with_reducible refine Guard_not (fun h => ?_) (fun h => ?_) | with_reducible refine IfB_ndec (fun h => ?_) (fun h => ?_) | with_reducible refine IfB_not (fun h => ?_) (fun h => ?_) | with_reducible refine Guard_split (fun h => ?_) (fun h => ?_) | with_reducible refine IfB_split (fun h => ?_) (fun h => ?_))
        refine (Number_lk (k := 1) (s := s5) lk rfl (by omega) 4294967295 (by omega)).mono ?_
        rintro r G ⟨rfl, lk, -⟩
        simp only [hf0, List.set_cons_succ, List.set_cons_zero, RS.blk] at lk ⊢
        repeat' (first | simp only [go_sem, Nat.reduceLT, Nat.reduceEqDiff, Nat.reduceAdd, Nat.reduceMul, Nat.reduceSub, Nat.reduceLeDiff, Int.reduceToNat, Int.reduceNeg, Int.reduceLT, Int.reduceLE, Int.reduceEq, reduceCtorEq, Int.natCast_zero, Int.natCast_one, Int.cast_ofNat_Int, Bool.not_not, false_eq_decide, true_eq_decide, hread0, hreadk, read_cons0, read_consk, astore_h0, astore_hk, hget0, hgetk, hset0, hsetk, hlen, hcat, Nat.add_assoc, Nat.add_zero, Nat.zero_add, List.length_append, and_true, true_and, AV.flat, like_read lk, like_read0 lk, like_readA lk, like_readA0 lk, like_get lk, like_get0 lk, like_getA lk, like_getA0 lk, *, -hK, -hk0, -ht0, -hn0, -hv0, -hf0, -hd0, -hu0, -hy0, -hkl, -cp, -hx] | with_reducible refine IfB_dec (fun h => ?_) (fun h => ?_) | with_reducible refine Guard_dec (fun h => ?_) (fun h => ?_) | with_reducible refine Guard_ndec (fun h => ?_) (fun h => ?_) | with_reducible refine Guard_not (fun h => ?_) (fun h => ?_) | with_reducible refine IfB_ndec (fun h => ?_) (fun h => ?_) | with_reducible refine IfB_not (fun h => ?_) (fun h => ?_) | with_reducible refine Guard_split (fun h => ?_) (fun h => ?_) | with_reducible refine IfB_split (fun h => ?_) (fun h => ?_))
        refine like_store lk (k := 2) rfl rfl (by simp only [asize, td9, td43, td3, td27, Option.map_some]) rfl (by simp) ?_
        intro G lk _
        simp only [List.set_cons_succ, List.set_cons_zero] at lk
        repeat' (first | simp only [go_sem, Nat.reduceLT, Nat.reduceEqDiff, Nat.reduceAdd, Nat.reduceMul, Nat.reduceSub, Nat.reduceLeDiff, Int.reduceToNat, Int.reduceNeg, Int.reduceLT, Int.reduceLE, Int.reduceEq, reduceCtorEq, Int.natCast_zero, Int.natCast_one, Int.cast_ofNat_Int, Bool.not_not, false_eq_decide, true_eq_decide, hread0, hreadk, read_cons0, read_consk, astore_h0, astore_hk, hget0, hgetk, hset0, hsetk, hlen, hcat, Nat.add_assoc, Nat.add_zero, Nat.zero_add, List.length_append, and_true, true_and, AV.flat, like_read lk, like_read0 lk, like_readA lk, like_readA0 lk, like_get lk, like_get0 lk, like_getA lk, like_getA0 lk, *, -hK, -hk0, -ht0, -hn0, -hv0, -hf0, -hd0, -hu0, -hy0, -hkl, -cp, -hx] | refine WC.call (cp _) ?_ | with_reducible refine IfB_dec (fun h => ?_) (fun h => ?_) | with_reducible refine Guard_dec (fun h => ?_) (fun h => ?_) | with_reducible refine Guard_ndec (fun h => ?_) (fun h => ?_) | with_reducible refine Guard_not (fun h => ?_) (fun h => ?_) | with_reducible refine IfB_ndec (fun h => ?_) (fun h => ?_) | with_reducible refine IfB_not (fun h => ?_) (fun h => ?_) | with_reducible refine Guard_split (fun h => ?_) (fun h => ?_) | with_reducible refine IfB_split (fun h => ?_) (fun h => ?_))
        refine (Number_lk (k := 1) (s := s6) lk rfl (by omega) 1099511627776 (by omega)).mono ?_
        rintro r G ⟨rfl, lk, -⟩
        simp only [hd0, List.set_cons_succ, List.set_cons_zero, RS.blk] at lk ⊢
        repeat' (first | simp only [go_sem, Nat.reduceLT, Nat.reduceEqDiff, Nat.reduceAdd, Nat.reduceMul, Nat.reduceSub, Nat.reduceLeDiff, Int.reduceToNat, Int.reduceNeg, Int.reduceLT, Int.reduceLE, Int.reduceEq, reduceCtorEq, Int.natCast_zero, Int.natCast_one, Int.cast_ofNat_Int, Bool.not_not, false_eq_decide, true_eq_decide, hread0, hreadk, read_cons0, read_consk, astore_h0, astore_hk, hget0, hgetk, hset0, hsetk, hlen, hcat, Nat.add_assoc, Nat.add_zero, Nat.zero_add, List.length_append, and_true, true_and, AV.flat, like_read lk, like_read0 lk, like_readA lk, like_readA0 lk, like_get lk, like_get0 lk, like_getA lk, like_getA0 lk, *, -hK, -hk0, -ht0, -hn0, -hv0, -hf0, -hd0, -hu0, -hy0, -hkl, -cp, -hx] | with_reducible refine IfB_dec (fun h => ?_) (fun h => ?_) | with_reducible refine Guard_dec (fun h => ?_) (fun h => ?_) | with_reducible refine Guard_ndec (fun h => ?_) (fun h => ?_) | with_reducible refine Guard_not (fun h => ?_) (fun h => ?_) | with_reducible refine IfB_ndec (fun h => ?_) (fun h => ?_) | with_reducible refine IfB_not (fun h => ?_) (fun h => ?_) | with_reducible refine Guard_split (fun h => ?_) (fun h => ?_) | with_reducible refine IfB_split (fun h => ?_) (fun h => ?_))
        refine like_store lk (k := 2) rfl rfl (by simp only [asize, td9, td43, td3, td27, Option.map_some]) rfl (by simp) ?_
        intro G lk _
        simp only [List.set_cons_succ, List.set_cons_zero] at lk
        repeat' (first | simp only [go_sem, Nat.reduceLT, Nat.reduceEqDiff, Nat.reduceAdd, Nat.reduceMul, Nat.reduceSub, Nat.reduceLeDiff, Int.reduceToNat, Int.reduceNeg, Int.reduceLT, Int.reduceLE, Int.reduceEq, reduceCtorEq, Int.natCast_zero, Int.natCast_one, Int.cast_ofNat_Int, Bool.not_not, false_eq_decide, true_eq_decide, hread0, hreadk, read_cons0, read_consk, astore_h0, astore_hk, hget0, hgetk, hset0, hsetk, hlen, hcat, Nat.add_assoc, Nat.add_zero, Nat.zero_add, List.length_append, and_true, true_and, AV.flat, like_read lk, like_read0 lk, like_readA lk, like_readA0 lk, like_get lk, like_get0 lk, like_getA lk, like_getA0 lk, *, -hK, -hk0, -ht0, -hn0, -hv0, -hf0, -hd0, -hu0, -hy0, -hkl, -cp, -hx] | refine WC.call (cp _) ?_ | with_reducible refine IfB_dec (fun h => ?_) (fun h => ?_) | with_reducible refine Guard_dec (fun h => ?_) (fun h => ?_) | with_reducible refine Guard_ndec (fun h => ?_) (fun h => ?_) | with_reducible refine Guard_not (fun h => ?_) (fun h => ?_) | with_reducible refine IfB_ndec (fun h => ?_) (fun h => ?_) | with_reducible refine IfB_not (fun h => ?_) (fun h => ?_) | with_reducible refine Guard_split (fun h => ?_) (fun h => ?_) | with_reducible refine IfB_split (fun h => ?_) (fun h => ?_))
        refine (Number_lk (k := 1) (s := s7) lk rfl (by omega) 18446744073709551615 (by omega)).mono ?_
        rintro r G ⟨rfl, lk, -⟩
        simp only [hu0, List.set_cons_succ, List.set_cons_zero, RS.blk] at lk ⊢
        repeat' (first | simp only [go_sem, Nat.reduceLT, Nat.reduceEqDiff, Nat.reduceAdd, Nat.reduceMul, Nat.reduceSub, Nat.reduceLeDiff, Int.reduceToNat, Int.reduceNeg, Int.reduceLT, Int.reduceLE, Int.reduceEq, reduceCtorEq, Int.natCast_zero, Int.natCast_one, Int.cast_ofNat_Int, Bool.not_not, false_eq_decide, true_eq_decide, hread0, hreadk, read_cons0, read_consk, astore_h0, astore_hk, hget0, hgetk, hset0, hsetk, hlen, hcat, Nat.add_assoc, Nat.add_zero, Nat.zero_add, List.length_append, and_true, true_and, AV.flat, like_read lk, like_read0 lk, like_readA lk, like_readA0 lk, like_get lk, like_get0 lk, like_getA lk, like_getA0 lk, *, -hK, -hk0, -ht0, -hn0, -hv0, -hf0, -hd0, -hu0, -hy0, -hkl, -cp, -hx] | with_reducible refine IfB_dec (fun h => ?_) (fun h => ?_) | with_reducible refine Guard_dec (fun h => ?_) (fun h => ?_) | with_reducible refine Guard_ndec (fun h => ?_) (fun h => ?_) | with_reducible refine Guard_not (fun h => ?_) (fun h => ?_) | with_reducible refine IfB_ndec (fun h => ?_) (fun h => ?_) | with_reducible refine IfB_not (fun h => ?_) (fun h => ?_) | with_reducible refine Guard_split (fun h => ?_) (fun h => ?_) | with_reducible refine IfB_split (fun h => ?_) (fun h => ?_))
        refine like_store lk (k := 2) rfl rfl (by simp only [asize, td9, td43, td3, td27, Option.map_some]) rfl (by simp) ?_
        intro G lk _
        simp only [List.set_cons_succ, List.set_cons_zero] at lk
        repeat' (first | simp only [go_sem, Nat.reduceLT, Nat.reduceEqDiff, Nat.reduceAdd, Nat.reduceMul, Nat.reduceSub, Nat.reduceLeDiff, Int.reduceToNat, Int.reduceNeg, Int.reduceLT, Int.reduceLE, Int.reduceEq, reduceCtorEq, Int.natCast_zero, Int.natCast_one, Int.cast_ofNat_Int, Bool.not_not, false_eq_decide, true_eq_decide, hread0, hreadk, read_cons0, read_consk, astore_h0, astore_hk, hget0, hgetk, hset0, hsetk, hlen, hcat, Nat.add_assoc, Nat.add_zero, Nat.zero_add, List.length_append, and_true, true_and, AV.flat, like_read lk, like_read0 lk, like_readA lk, like_readA0 lk, like_get lk, like_get0 lk, like_getA lk, like_getA0 lk, *, -hK, -hk0, -ht0, -hn0, -hv0, -hf0, -hd0, -hu0, -hy0, -hkl, -cp, -hx] | refine WC.call (cp _) ?_ | with_reducible refine IfB_dec (fun h => ?_) (fun h => ?_) | with_reducible refine Guard_dec (fun h => ?_) (fun h => ?_) | with_reducible refine Guard_ndec (fun h => ?_) (fun h => ?_) | with_reducible refine Guard_not (fun h => ?_) (fun h => ?_) | with_reducible refine IfB_ndec (fun h => ?_) (fun h => ?_) | with_reducible refine IfB_not (fun h => ?_) (fun h => ?_) | with_reducible refine Guard_split (fun h => ?_) (fun h => ?_) | with_reducible refine IfB_split (fun h => ?_) (fun h => ?_))
        refine (Number_lk (k := 1) (s := s8) lk rfl (by omega) 18446744073709551615 (by omega)).mono ?_
        rintro r G ⟨rfl, lk, -⟩
        simp only [hy0, List.set_cons_succ, List.set_cons_zero, RS.blk] at lk ⊢
        repeat' (first | simp only [go_sem, Nat.reduceLT, Nat.reduceEqDiff, Nat.reduceAdd, Nat.reduceMul, Nat.reduceSub, Nat.reduceLeDiff, Int.reduceToNat, Int.reduceNeg, Int.reduceLT, Int.reduceLE, Int.reduceEq, reduceCtorEq, Int.natCast_zero, Int.natCast_one, Int.cast_ofNat_Int, Bool.not_not, false_eq_decide, true_eq_decide, hread0, hreadk, read_cons0, read_consk, astore_h0, astore_hk, hget0, hgetk, hset0, hsetk, hlen, hcat, Nat.add_assoc, Nat.add_zero, Nat.zero_add, List.length_append, and_true, true_and, AV.flat, like_read lk, like_read0 lk, like_readA lk, like_readA0 lk, like_get lk, like_get0 lk, like_getA lk, like_getA0 lk, *, -hK, -hk0, -ht0, -hn0, -hv0, -hf0, -hd0, -hu0, -hy0, -hkl, -cp, -hx] | with_reducible refine IfB_dec (fun h => ?_) (fun h => ?_) | with_reducible refine Guard_dec (fun h => ?_) (fun h => ?_) | with_reducible refine Guard_ndec (fun h => ?_) (fun h => ?_) | with_reducible refine Guard_not (fun h => ?_) (fun h => ?_) | with_reducible refine IfB_ndec (fun h => ?_) (fun h => ?_) | with_reducible refine IfB_not (fun h => ?_) (fun h => ?_) | with_reducible refine Guard_split (fun h => ?_) (fun h => ?_) | with_reducible refine IfB_split (fun h => ?_) (fun h => ?_))
        refine like_store lk (k := 2) rfl rfl (by simp only [asize, td9, td43, td3, td27, Option.map_some]) rfl (by simp) ?_
        intro G lk _
        simp only [List.set_cons_succ, List.set_cons_zero] at lk
        repeat' (first | simp only [go_sem, Nat.reduceLT, Nat.reduceEqDiff, Nat.reduceAdd, Nat.reduceMul, Nat.reduceSub, Nat.reduceLeDiff, Int.reduceToNat, Int.reduceNeg, Int.reduceLT, Int.reduceLE, Int.reduceEq, reduceCtorEq, Int.natCast_zero, Int.natCast_one, Int.cast_ofNat_Int, Bool.not_not, false_eq_decide, true_eq_decide, hread0, hreadk, read_cons0, read_consk, astore_h0, astore_hk, hget0, hgetk, hset0, hsetk, hlen, hcat, Nat.add_assoc, Nat.add_zero, Nat.zero_add, List.length_append, and_true, true_and, AV.flat, like_read lk, like_read0 lk, like_readA lk, like_readA0 lk, like_get lk, like_get0 lk, like_getA lk, like_getA0 lk, *, -hK, -hk0, -ht0, -hn0, -hv0, -hf0, -hd0, -hu0, -hy0, -hkl, -cp, -hx] | refine WC.call (cp _) ?_ | with_reducible refine IfB_dec (fun h => ?_) (fun h => ?_) | with_reducible refine Guard_dec (fun h => ?_) (fun h => ?_) | with_reducible refine Guard_ndec (fun h => ?_) (fun h => ?_) | with_reducible refine Guard_not (fun h => ?_) (fun h => ?_) | with_reducible refine IfB_ndec (fun h => ?_) (fun h => ?_) | with_reducible refine IfB_not (fun h => ?_) (fun h => ?_) | with_reducible refine Guard_split (fun h => ?_) (fun h => ?_) | with_reducible refine IfB_split (fun h => ?_) (fun h => ?_))
        all_goals
          have hz := like_at0 lk rfl
          repeat' (first | simp only [go_sem, Nat.reduceLT, Nat.reduceEqDiff, Nat.reduceAdd, Nat.reduceMul, Nat.reduceSub, Nat.reduceLeDiff, Int.reduceToNat, Int.reduceNeg, Int.reduceLT, Int.reduceLE, Int.reduceEq, reduceCtorEq, Int.natCast_zero, Int.natCast_one, Int.cast_ofNat_Int, Bool.not_not, false_eq_decide, true_eq_decide, hread0, hreadk, read_cons0, read_consk, astore_h0, astore_hk, hget0, hgetk, hset0, hsetk, hlen, hcat, Nat.add_assoc, Nat.add_zero, Nat.zero_add, List.length_append, and_true, true_and, AV.flat, hz, get_app hz, read_get hz, read_app hz, astore_get hz, astore_app hz, get_set hz, get_set_app hz, read_set hz, read_set_app hz, astore_set hz, astore_set_app hz, List.set_set, hget0s, hgetks, hread0s, hreadks, List.length_set, like_read lk, like_read0 lk, like_readA lk, like_readA0 lk, like_get lk, like_get0 lk, like_getA lk, like_getA0 lk, *, -hK, -hk0, -ht0, -hn0, -hv0, -hf0, -hd0, -hu0, -hy0, -hkl, -cp, -hx] | refine WC.call (cp _) ?_ | with_reducible refine IfB_dec (fun h => ?_) (fun h => ?_) | with_reducible refine Guard_dec (fun h => ?_) (fun h => ?_) | with_reducible refine Guard_ndec (fun h => ?_) (fun h => ?_) | with_reducible refine Guard_not (fun h => ?_) (fun h => ?_) | with_reducible refine IfB_ndec (fun h => ?_) (fun h => ?_) | with_reducible refine IfB_not (fun h => ?_) (fun h => ?_) | with_reducible refine Guard_split (fun h => ?_) (fun h => ?_) | with_reducible refine IfB_split (fun h => ?_) (fun h => ?_))
          all_goals first
            | exact hK _ _ (Thaw.tup_row ⟨Thaw.agg_row ⟨.int _ _, .int _ _, .nils, .str _, .int _ _, .int _ _, .int _ _, .int _ _, trivial⟩, .int _ _, trivial⟩) (hout _ _ _ lk)
            | exact absurd ⟨‹_›, ‹_›, ‹_›⟩ hx
            | trace_state
      · clear hexit hlt
        repeat' (first | simp only [go_sem, Nat.reduceLT, Nat.reduceEqDiff, Nat.reduceAdd, Nat.reduceMul, Nat.reduceSub, Nat.reduceLeDiff, Int.reduceToNat, Int.reduceNeg, Int.reduceLT, Int.reduceLE, Int.reduceEq, reduceCtorEq, Int.natCast_zero, Int.natCast_one, Int.cast_ofNat_Int, Bool.not_not, false_eq_decide, true_eq_decide, hread0, hreadk, read_cons0, read_consk, astore_h0, astore_hk, hget0, hgetk, hset0, hsetk, hlen, hcat, Nat.add_assoc, Nat.add_zero, Nat.zero_add, List.length_append, and_true, true_and, AV.flat, like_read lk1, like_read0 lk1, like_readA lk1, like_readA0 lk1, like_get lk1, like_get0 lk1, like_getA lk1, like_getA0 lk1, *, -hK, -hk0, -ht0, -hn0, -hv0, -hf0, -hd0, -hu0, -hy0, -hend, -hkl, -cp, -hx] | with_reducible refine IfB_dec (fun h => ?_) (fun h => ?_) | with_reducible refine Guard_dec (fun h => ?_) (fun h => ?_) | with_reducible refine Guard_ndec (fun h => ?_) (fun h => ?_) | with_reducible refine Guard_not (fun h => ?_) (fun h => ?_) | with_reducible refine IfB_ndec (fun h => ?_) (fun h => ?_) | with_reducible refine IfB_not (fun h => ?_) (fun h => ?_) | with_reducible refine Guard_split (fun h => ?_) (fun h => ?_) | with_reducible refine IfB_split (fun h => ?_) (fun h => ?_))
        all_goals
          clear hend
          clear hsb
          have lk := lk1
          clear lk1
          refine (Text_lk (k := 1) (s := s) lk rfl (by omega)).mono ?_
          rintro r G ⟨rfl, lk, -⟩
          simp only [hv0, List.set_cons_succ, List.set_cons_zero, RS.blk] at lk ⊢
          repeat' (first | simp only [go_sem, Nat.reduceLT, Nat.reduceEqDiff, Nat.reduceAdd, Nat.reduceMul, Nat.reduceSub, Nat.reduceLeDiff, Int.reduceToNat, Int.reduceNeg, Int.reduceLT, Int.reduceLE, Int.reduceEq, reduceCtorEq, Int.natCast_zero, Int.natCast_one, Int.cast_ofNat_Int, Bool.not_not, false_eq_decide, true_eq_decide, hread0, hreadk, read_cons0, read_consk, astore_h0, astore_hk, hget0, hgetk, hset0, hsetk, hlen, hcat, Nat.add_assoc, Nat.add_zero, Nat.zero_add, List.length_append, and_true, true_and, AV.flat, like_read lk, like_read0 lk, like_readA lk, like_readA0 lk, like_get lk, like_get0 lk, like_getA lk, like_getA0 lk, *, -hK, -hk0, -ht0, -hn0, -hv0, -hf0, -hd0, -hu0, -hy0, -hkl, -cp, -hx] | with_reducible refine IfB_dec (fun h => ?_) (fun h => ?_) | with_reducible refine Guard_dec (fun h => ?_) (fun h => ?_) | with_reducible refine Guard_ndec (fun h => ?_) (fun h => ?_) | with_reducible refine Guard_not (fun h => ?_) (fun h => ?_) | with_reducible refine IfB_ndec (fun h => ?_) (fun h => ?_) | with_reducible refine IfB_not (fun h => ?_) (fun h => ?_) | with_reducible refine Guard_split (fun h => ?_) (fun h => ?_) | with_reducible refine IfB_split (fun h => ?_) (fun h => ?_))
          refine like_store lk (k := 2) rfl rfl (by simp only [asize, td9, td43, td3, td27, Option.map_some]) rfl (by simp) ?_
          intro G lk _
          simp only [List.set_cons_succ, List.set_cons_zero] at lk
          repeat' (first | simp only [go_sem, Nat.reduceLT, Nat.reduceEqDiff, Nat.reduceAdd, Nat.reduceMul, Nat.reduceSub, Nat.reduceLeDiff, Int.reduceToNat, Int.reduceNeg, Int.reduceLT, Int.reduceLE, Int.reduceEq, reduceCtorEq, Int.natCast_zero, Int.natCast_one, Int.cast_ofNat_Int, Bool.not_not, false_eq_decide, true_eq_decide, hread0, hreadk, read_cons0, read_consk, astore_h0, astore_hk, hget0, hgetk, hset0, hsetk, hlen, hcat, Nat.add_assoc, Nat.add_zero, Nat.zero_add, List.length_append, and_true, true_and, AV.flat, like_read lk, like_read0 lk, like_readA lk, like_readA0 lk, like_get lk, like_get0 lk, like_getA lk, like_getA0 lk, *, -hK, -hk0, -ht0, -hn0, -hv0, -hf0, -hd0, -hu0, -hy0, -hkl, -cp, -hx] | refine WC.call (cp _) ?_ | with_reducible refine IfB_dec (fun h => ?_) (fun h => ?_) | with_reducible refine Guard_dec (fun h => ?_) (fun h => ?_) | with_reducible refine Guard_ndec (fun h => ?_) (fun h => ?_) | with_reducible refine Guard_not (fun h => ?_) (fun h => ?_) | with_reducible refine IfB_ndec (fun h => ?_) (fun h => ?_) | with_reducible refine IfB_not (fun h => ?_) (fun h => ?_) | with_reducible refine Guard_split (fun h => ?_) (fun h => ?_) | with_reducible refine IfB_split (fun h => ?_) (fun h => ?_))
          refine (Number_lk (k := 1) (s := s5) lk rfl (by omega) 4294967295 (by omega)).mono ?_
          rintro r G ⟨rfl, lk, -⟩
          simp only [hf0, List.set_cons_succ, List.set_cons_zero, RS.blk] at lk ⊢
          repeat' (first | simp only [go_sem, Nat.reduceLT, Nat.reduceEqDiff, Nat.reduceAdd, Nat.reduceMul, Nat.reduceSub, Nat.reduceLeDiff, Int.reduceToNat, Int.reduceNeg, Int.reduceLT, Int.reduceLE, Int.reduceEq, reduceCtorEq, Int.natCast_zero, Int.natCast_one, Int.cast_ofNat_Int, Bool.not_not, false_eq_decide, true_eq_decide, hread0, hreadk, read_cons0, read_consk, astore_h0, astore_hk, hget0, hgetk, hset0, hsetk, hlen, hcat, Nat.add_assoc, Nat.add_zero, Nat.zero_add, List.length_append, and_true, true_and, AV.flat, like_read lk, like_read0 lk, like_readA lk, like_readA0 lk, like_get lk, like_get0 lk, like_getA lk, like_getA0 lk, *, -hK, -hk0, -ht0, -hn0, -hv0, -hf0, -hd0, -hu0, -hy0, -hkl, -cp, -hx] | with_reducible refine IfB_dec (fun h => ?_) (fun h => ?_) | with_reducible refine Guard_dec (fun h => ?_) (fun h => ?_) | with_reducible refine Guard_ndec (fun h => ?_) (fun h => ?_) | with_reducible refine Guard_not (fun h => ?_) (fun h => ?_) | with_reducible refine IfB_ndec (fun h => ?_) (fun h => ?_) | with_reducible refine IfB_not (fun h => ?_) (fun h => ?_) | with_reducible refine Guard_split (fun h => ?_) (fun h => ?_) | with_reducible refine IfB_split (fun h => ?_) (fun h => ?_))
          refine like_store lk (k := 2) rfl rfl (by simp only [asize, td9, td43, td3, td27, Option.map_some]) rfl (by simp) ?_
          intro G lk _
          simp only [List.set_cons_succ, List.set_cons_zero] at lk
          repeat' (first | simp only [go_sem, Nat.reduceLT, Nat.reduceEqDiff, Nat.reduceAdd, Nat.reduceMul, Nat.reduceSub, Nat.reduceLeDiff, Int.reduceToNat, Int.reduceNeg, Int.reduceLT, Int.reduceLE, Int.reduceEq, reduceCtorEq, Int.natCast_zero, Int.natCast_one, Int.cast_ofNat_Int, Bool.not_not, false_eq_decide, true_eq_decide, hread0, hreadk, read_cons0, read_consk, astore_h0, astore_hk, hget0, hgetk, hset0, hsetk, hlen, hcat, Nat.add_assoc, Nat.add_zero, Nat.zero_add, List.length_append, and_true, true_and, AV.flat, like_read lk, like_read0 lk, like_readA lk, like_readA0 lk, like_get lk, like_get0 lk, like_getA lk, like_getA0 lk, *, -hK, -hk0, -ht0, -hn0, -hv0, -hf0, -hd0, -hu0, -hy0, -hkl, -cp, -hx] | refine WC.call (cp _) ?_ | with_reducible refine IfB_dec (fun h => ?_) (fun h => ?_) | with_reducible refine Guard_dec (fun h => ?_) (fun h => ?_) | with_reducible refine Guard_ndec (fun h => ?_) (fun h => ?_) | with_reducible refine Guard_not (fun h => ?_) (fun h => ?_) | with_reducible refine IfB_ndec (fun h => ?_) (fun h => ?_) | with_reducible refine IfB_not (fun h => ?_) (fun h => ?_) | with_reducible refine Guard_split (fun h => ?_) (fun h => ?_) | with_reducible refine IfB_split (fun h => ?_) (fun h => ?_))
          refine (Number_lk (k := 1) (s := s6) lk rfl (by omega) 1099511627776 (by omega)).mono ?_
          rintro r G ⟨rfl, lk, -⟩
          simp only [hd0, List.set_cons_succ, List.set_cons_zero, RS.blk] at lk ⊢
          repeat' (first | simp only [go_sem, Nat.reduceLT, Nat.reduceEqDiff, Nat.reduceAdd, Nat.reduceMul, Nat.reduceSub, Nat.reduceLeDiff, Int.reduceToNat, Int.reduceNeg, Int.reduceLT, Int.reduceLE, Int.reduceEq, reduceCtorEq, Int.natCast_zero, Int.natCast_one, Int.cast_ofNat_Int, Bool.not_not, false_eq_decide, true_eq_decide, hread0, hreadk, read_cons0, read_consk, astore_h0, astore_hk, hget0, hgetk, hset0, hsetk, hlen, hcat, Nat.add_assoc, Nat.add_zero, Nat.zero_add, List.length_append, and_true, true_and, AV.flat, like_read lk, like_read0 lk, like_readA lk, like_readA0 lk, like_get lk, like_get0 lk, like_getA lk, like_getA0 lk, *, -hK, -hk0, -ht0, -hn0, -hv0, -hf0, -hd0, -hu0, -hy0, -hkl, -cp, -hx] | with_reducible refine IfB_dec (fun h => ?_) (fun h => ?_) | with_reducible refine Guard_dec (fun h => ?_) (fun h => ?_) | with_reducible refine Guard_ndec (fun h => ?_) (fun h => ?_) | with_reducible refine Guard_not (fun h => ?_) (fun h => ?_) | with_reducible refine IfB_ndec (fun h => ?_) (fun h => ?_) | with_reducible refine IfB_not (fun h => ?_) (fun h => ?_) | with_reducible refine Guard_split (fun h => ?_) (fun h => ?_) | with_reducible refine IfB_split (fun h => ?_) (fun h => ?_))
          refine like_store lk (k := 2) rfl rfl (by simp only [asize, td9, td43, td3, td27, Option.map_some]) rfl (by simp) ?_
          intro G lk _
          simp only [List.set_cons_succ, List.set_cons_zero] at lk
          repeat' (first | simp only [go_sem, Nat.reduceLT, Nat.reduceEqDiff, Nat.reduceAdd, Nat.reduceMul, Nat.reduceSub, Nat.reduceLeDiff, Int.reduceToNat, Int.reduceNeg, Int.reduceLT, Int.reduceLE, Int.reduceEq, reduceCtorEq, Int.natCast_zero, Int.natCast_one, Int.cast_ofNat_Int, Bool.not_not, false_eq_decide, true_eq_decide, hread0, hreadk, read_cons0, read_consk, astore_h0, astore_hk, hget0, hgetk, hset0, hsetk, hlen, hcat, Nat.add_assoc, Nat.add_zero, Nat.zero_add, List.length_append, and_true, true_and, AV.flat, like_read lk, like_read0 lk, like_readA lk, like_readA0 lk, like_get lk, like_get0 lk, like_getA lk, like_getA0 lk, *, -hK, -hk0, -ht0, -hn0, -hv0, -hf0, -hd0, -hu0, -hy0, -hkl, -cp, -hx] | refine WC.call (cp _) ?_ | with_reducible refine IfB_dec (fun h => ?_) (fun h => ?_) | with_reducible refine Guard_dec (fun h => ?_) (fun h => ?_) | with_reducible refine Guard_ndec (fun h => ?_) (fun h => ?_) | with_reducible refine Guard_not (fun h => ?_) (fun h => ?_) | with_reducible refine IfB_ndec (fun h => ?_) (fun h => ?_) | with_reducible refine IfB_not (fun h => ?_) (fun h => ?_) | with_reducible refine Guard_split (fun h => ?_) (fun h => ?_) | with_reducible refine IfB_split (fun h => ?_) (fun h => ?_))
          refine (Number_lk (k := 1) (s := s7) lk rfl (by omega) 18446744073709551615 (by omega)).mono ?_
          rintro r G ⟨rfl, lk, -⟩
          simp only [hu0, List.set_cons_succ, List.set_cons_zero, RS.blk] at lk ⊢
          repeat' (first | simp only [go_sem, Nat.reduceLT, Nat.reduceEqDiff, Nat.reduceAdd, Nat.reduceMul, Nat.reduceSub, Nat.reduceLeDiff, Int.reduceToNat, Int.reduceNeg, Int.reduceLT, Int.reduceLE, Int.reduceEq, reduceCtorEq, Int.natCast_zero, Int.natCast_one, Int.cast_ofNat_Int, Bool.not_not, false_eq_decide, true_eq_decide, hread0, hreadk, read_cons0, read_consk, astore_h0, astore_hk, hget0, hgetk, hset0, hsetk, hlen, hcat, Nat.add_assoc, Nat.add_zero, Nat.zero_add, List.length_append, and_true, true_and, AV.flat, like_read lk, like_read0 lk, like_readA lk, like_readA0 lk, like_get lk, like_get0 lk, like_getA lk, like_getA0 lk, *, -hK, -hk0, -ht0, -hn0, -hv0, -hf0, -hd0, -hu0, -hy0, -hkl, -cp, -hx] | with_reducible refine IfB_dec (fun h => ?_) (fun h => ?_) | with_reducible refine Guard_dec (fun h => ?_) (fun h => ?_) | with_reducible refine Guard_ndec (fun h => ?_) (fun h => ?_) | with_reducible refine Guard_not (fun h => ?_) (fun h => ?_) | with_reducible refine IfB_ndec (fun h => ?_) (fun h => ?_) | with_reducible refine IfB_not (fun h => ?_) (fun h => ?_) | with_reducible refine Guard_split (fun h => ?_) (fun h => ?_) | with_reducible refine IfB_split (fun h => ?_) (fun h => ?_))
          refine like_store lk (k := 2) rfl rfl (by simp only [asize, td9, td43, td3, td27, Option.map_some]) rfl (by simp) ?_
          intro G lk _
          simp only [List.set_cons_succ, List.set_cons_zero] at lk
          repeat' (first | simp only [go_sem, Nat.reduceLT, Nat.reduceEqDiff, Nat.reduceAdd, Nat.reduceMul, Nat.reduceSub, Nat.reduceLeDiff, Int.reduceToNat, Int.reduceNeg, Int.reduceLT, Int.reduceLE, Int.reduceEq, reduceCtorEq, Int.natCast_zero, Int.natCast_one, Int.cast_ofNat_Int, Bool.not_not, false_eq_decide, true_eq_decide, hread0, hreadk, read_cons0, read_consk, astore_h0, astore_hk, hget0, hgetk, hset0, hsetk, hlen, hcat, Nat.add_assoc, Nat.add_zero, Nat.zero_add, List.length_append, and_true, true_and, AV.flat, like_read lk, like_read0 lk, like_readA lk, like_readA0 lk, like_get lk, like_get0 lk, like_getA lk, like_getA0 lk, *, -hK, -hk0, -ht0, -hn0, -hv0, -hf0, -hd0, -hu0, -hy0, -hkl, -cp, -hx] | refine WC.call (cp _) ?_ | with_reducible refine IfB_dec (fun h => ?_) (fun h => ?_) | with_reducible refine Guard_dec (fun h => ?_) (fun h => ?_) | with_reducible refine Guard_ndec (fun h => ?_) (fun h => ?_) | with_reducible refine Guard_not (fun h => ?_) (fun h => ?_) | with_reducible refine IfB_ndec (fun h => ?_) (fun h => ?_) | with_reducible refine IfB_not (fun h => ?_) (fun h => ?_) | with_reducible refine Guard_split (fun h => ?_) (fun h => ?_) | with_reducible refine IfB_split (fun h => ?_) (fun h => ?_))
          refine (Number_lk (k := 1) (s := s8) lk rfl (by omega) 18446744073709551615 (by omega)).mono ?_
          rintro r G ⟨rfl, lk, -⟩
          simp only [hy0, List.set_cons_succ, List.set_cons_zero, RS.blk] at lk ⊢
          repeat' (first | simp only [go_sem, Nat.reduceLT, Nat.reduceEqDiff, Nat.reduceAdd, Nat.reduceMul, Nat.reduceSub, Nat.reduceLeDiff, Int.reduceToNat, Int.reduceNeg, Int.reduceLT, Int.reduceLE, Int.reduceEq, reduceCtorEq, Int.natCast_zero, Int.natCast_one, Int.cast_ofNat_Int, Bool.not_not, false_eq_decide, true_eq_decide, hread0, hreadk, read_cons0, read_consk, astore_h0, astore_hk, hget0, hgetk, hset0, hsetk, hlen, hcat, Nat.add_assoc, Nat.add_zero, Nat.zero_add, List.length_append, and_true, true_and, AV.flat, like_read lk, like_read0 lk, like_readA lk, like_readA0 lk, like_get lk, like_get0 lk, like_getA lk, like_getA0 lk, *, -hK, -hk0, -ht0, -hn0, -hv0, -hf0, -hd0, -hu0, -hy0, -hkl, -cp, -hx] | with_reducible refine IfB_dec (fun h => ?_) (fun h => ?_) | with_reducible refine Guard_dec (fun h => ?_) (fun h => ?_) | with_reducible refine Guard_ndec (fun h => ?_) (fun h => ?_) | with_reducible refine Guard_not (fun h => ?_) (fun h => ?_) | with_reducible refine IfB_ndec (fun h => ?_) (fun h => ?_) | with_reducible refine IfB_not (fun h => ?_) (fun h => ?_) | with_reducible refine Guard_split (fun h => ?_) (fun h => ?_) | with_reducible refine IfB_split (fun h => ?_) (fun h => ?_))
          refine like_store lk (k := 2) rfl rfl (by simp only [asize, td9, td43, td3, td27, Option.map_some]) rfl (by simp) ?_
          intro G lk _
          simp only [List.set_cons_succ, List.set_cons_zero] at lk
          repeat' (first | simp only [go_sem, Nat.reduceLT, Nat.reduceEqDiff, Nat.reduceAdd, Nat.reduceMul, Nat.reduceSub, Nat.reduceLeDiff, Int.reduceToNat, Int.reduceNeg, Int.reduceLT, Int.reduceLE, Int.reduceEq, reduceCtorEq, Int.natCast_zero, Int.natCast_one, Int.cast_ofNat_Int, Bool.not_not, false_eq_decide, true_eq_decide, hread0, hreadk, read_cons0, read_consk, astore_h0, astore_hk, hget0, hgetk, hset0, hsetk, hlen, hcat, Nat.add_assoc, Nat.add_zero, Nat.zero_add, List.length_append, and_true, true_and, AV.flat, like_read lk, like_read0 lk, like_readA lk, like_readA0 lk, like_get lk, like_get0 lk, like_getA lk, like_getA0 lk, *, -hK, -hk0, -ht0, -hn0, -hv0, -hf0, -hd0, -hu0, -hy0, -hkl, -cp, -hx] | refine WC.call (cp _) ?_ | with_reducible refine IfB_dec (fun h => ?_) (fun h => ?_) | with_reducible refine Guard_dec (fun h => ?_) (fun h => ?_) | with_reducible refine Guard_ndec (fun h => ?_) (fun h => ?_) | with_reducible refine Guard_not (fun h => ?_) (fun h => ?_) | with_reducible refine IfB_ndec (fun h => ?_) (fun h => ?_) | with_reducible refine IfB_not (fun h => ?_) (fun h => ?_) | with_reducible refine Guard_split (fun h => ?_) (fun h => ?_) | with_reducible refine IfB_split (fun h => ?_) (fun h => ?_))
          all_goals
            have hz := like_at0 lk rfl
            repeat' (first | simp only [go_sem, Nat.reduceLT, Nat.reduceEqDiff, Nat.reduceAdd, Nat.reduceMul, Nat.reduceSub, Nat.reduceLeDiff, Int.reduceToNat, Int.reduceNeg, Int.reduceLT, Int.reduceLE, Int.reduceEq, reduceCtorEq, Int.natCast_zero, Int.natCast_one, Int.cast_ofNat_Int, Bool.not_not, false_eq_decide, true_eq_decide, hread0, hreadk, read_cons0, read_consk, astore_h0, astore_hk, hget0, hgetk, hset0, hsetk, hlen, hcat, Nat.add_assoc, Nat.add_zero, Nat.zero_add, List.length_append, and_true, true_and, AV.flat, hz, get_app hz, read_get hz, read_app hz, astore_get hz, astore_app hz, get_set hz, get_set_app hz, read_set hz, read_set_app hz, astore_set hz, astore_set_app hz, List.set_set, hget0s, hgetks, hread0s, hreadks, List.length_set, like_read lk, like_read0 lk, like_readA lk, like_readA0 lk, like_get lk, like_get0 lk, like_getA lk, like_getA0 lk, *, -hK, -hk0, -ht0, -hn0, -hv0, -hf0, -hd0, -hu0, -hy0, -hkl, -cp, -hx] | refine WC.call (cp _) ?_ | with_reducible refine IfB_dec (fun h => ?_) (fun h => ?_) | with_reducible refine Guard_dec (fun h => ?_) (fun h => ?_) | with_reducible refine Guard_ndec (fun h => ?_) (fun h => ?_) | with_reducible refine Guard_not (fun h => ?_) (fun h => ?_) | with_reducible refine IfB_ndec (fun h => ?_) (fun h => ?_) | with_reducible refine IfB_not (fun h => ?_) (fun h => ?_) | with_reducible refine Guard_split (fun h => ?_) (fun h => ?_) | with_reducible refine IfB_split (fun h => ?_) (fun h => ?_))
            all_goals first
              | exact hK _ _ (Thaw.tup_row ⟨Thaw.agg_row ⟨.int _ _, .int _ _, .nils, .str _, .int _ _, .int _ _, .int _ _, .int _ _, trivial⟩, .int _ _, trivial⟩) (hout _ _ _ lk)
              | exact absurd ⟨‹_›, ‹_›, ‹_›⟩ hx
              | trace_state
open Go Go.Proofs Go.Proofs.PI
theorem sameTexts_spec (xs ys : List (List UInt8)) (hx : xs.length ≤ 140737488355328) (H : Heap) : WC Try.prog 55 [Enc.str.lst xs, Enc.str.lst ys] H fun r H' => r = .bool (decide (xs = ys)) ∧ H' = H := by
  refine WC_of_K fun K hK => ?_
  by_cases hl : xs.length = ys.length
  rotate_left
  · have hne : ¬ (xs.length : Int) = ys.length := by omega
    have hd : decide (xs = ys) = false := by rw [decide_eq_false_iff_not]; intro h; exact hl (by rw [h])
    rw [hd] at hK
    refine WC_of_body hT Try.func55 rfl (by simp [Try.f55]) (by simp [Try.f55]) (wx_sound hT _ ?_)
    simp only [Try.f55]
    repeat' (first | simp only [go_sem, Nat.reduceLT, Nat.reduceEqDiff, Nat.reduceAdd, Nat.reduceMul, Nat.reduceSub, Nat.reduceLeDiff, Int.reduceToNat, Int.reduceNeg, Int.reduceLT, Int.reduceLE, Int.reduceEq, reduceCtorEq, Int.natCast_zero, Int.natCast_one, Int.cast_ofNat_Int, Bool.not_not, false_eq_decide, true_eq_decide, hread0, hreadk, read_cons0, read_consk, astore_h0, astore_hk, hget0, hgetk, hset0, hsetk, hlen, hcat, Nat.add_assoc, Nat.add_zero, Nat.zero_add, List.length_append, and_true, true_and, AV.flat, *, -hK, -hl, -hd] | with_reducible refine IfB_dec (fun h => ?_) (fun h => ?_) | with_reducible refine Guard_dec (fun h => ?_) (fun h => ?_) | with_reducible refine Guard_ndec (fun h => ?_) (fun h => ?_) | with_reducible refine Guard_not (fun h => ?_) (fun h => ?_) | with_reducible refine IfB_ndec (fun h => ?_) (fun h => ?_) | with_reducible refine IfB_not (fun h => ?_) (fun h => ?_) | with_reducible refine Guard_split (fun h => ?_) (fun h => ?_) | with_reducible refine IfB_split (fun h => ?_) (fun h => ?_))
    exact hK _ _ ⟨rfl, rfl⟩
  have he : (xs.length : Int) = ys.length := by omega
  refine WC_of_body hT Try.func55 rfl (by simp [Try.f55]) (by simp [Try.f55]) (wx_sound hT _ ?_)
  simp only [Try.f55]
  repeat' (first | simp only [go_sem, Nat.reduceLT, Nat.reduceEqDiff, Nat.reduceAdd, Nat.reduceMul, Nat.reduceSub, Nat.reduceLeDiff, Int.reduceToNat, Int.reduceNeg, Int.reduceLT, Int.reduceLE, Int.reduceEq, reduceCtorEq, Int.natCast_zero, Int.natCast_one, Int.cast_ofNat_Int, Bool.not_not, false_eq_decide, true_eq_decide, hread0, hreadk, read_cons0, read_consk, astore_h0, astore_hk, hget0, hgetk, hset0, hsetk, hlen, hcat, Nat.add_assoc, Nat.add_zero, Nat.zero_add, List.length_append, and_true, true_and, AV.flat, *, -hK, -hl] | with_reducible refine IfB_dec (fun h => ?_) (fun h => ?_) | with_reducible refine Guard_dec (fun h => ?_) (fun h => ?_) | with_reducible refine Guard_ndec (fun h => ?_) (fun h => ?_) | with_reducible refine Guard_not (fun h => ?_) (fun h => ?_) | with_reducible refine IfB_ndec (fun h => ?_) (fun h => ?_) | with_reducible refine IfB_not (fun h => ?_) (fun h => ?_) | with_reducible refine Guard_split (fun h => ?_) (fun h => ?_) | with_reducible refine IfB_split (fun h => ?_) (fun h => ?_))
  refine WX_loopS [0, 1] (fun k fr' H' => ∃ i : Nat, k = xs.length - i ∧ i ≤ xs.length ∧ fr'.get 5 = .int .i64 i ∧ xs.take i = ys.take i ∧ H' = H) xs.length ⟨0, rfl, by omega, by simp only [go_sem, Nat.reduceLT, Nat.reduceEqDiff, Nat.reduceAdd, Nat.reduceMul, Nat.reduceSub, Nat.reduceLeDiff, Int.reduceToNat, Int.reduceNeg, Int.reduceLT, Int.reduceLE, Int.reduceEq, reduceCtorEq]; rfl, rfl, rfl⟩ ?_
  rintro k fr' H' A R hA hs hg hR ⟨i, rfl, hi, f5, ht, rfl⟩
  have s0 := hg 0 (by decide)
  have s1 := hg 1 (by decide)
  simp only [Fr.get_put, Fr.get_init, List.getD_cons_zero, List.getD_cons_succ, Nat.reduceEqDiff, if_true, if_false] at s0 s1
  clear he
  refine wx_sound hT _ ?_
  by_cases hlt : i < xs.length
  · have h1 : (i : Int) < xs.length := by omega
    have e1 := at_enc (E := Enc.str) (T := T) (k := .i64) se42 hlt rfl
    have e2 := at_enc (E := Enc.str) (T := T) (k := .i64) se42 (show i < ys.length by omega) rfl
    have e3 := inc_id hlt hx
    repeat' (first | simp only [go_sem, Nat.reduceLT, Nat.reduceEqDiff, Nat.reduceAdd, Nat.reduceMul, Nat.reduceSub, Nat.reduceLeDiff, Int.reduceToNat, Int.reduceNeg, Int.reduceLT, Int.reduceLE, Int.reduceEq, reduceCtorEq, Int.natCast_zero, Int.natCast_one, Int.cast_ofNat_Int, Bool.not_not, false_eq_decide, true_eq_decide, hread0, hreadk, read_cons0, read_consk, astore_h0, astore_hk, hget0, hgetk, hset0, hsetk, hlen, hcat, Nat.add_assoc, Nat.add_zero, Nat.zero_add, List.length_append, and_true, true_and, AV.flat, *, -hK, -hl, -ht] | with_reducible refine IfB_dec (fun h => ?_) (fun h => ?_) | with_reducible refine Guard_dec (fun h => ?_) (fun h => ?_) | with_reducible refine Guard_ndec (fun h => ?_) (fun h => ?_) | with_reducible refine Guard_not (fun h => ?_) (fun h => ?_) | with_reducible refine IfB_ndec (fun h => ?_) (fun h => ?_) | with_reducible refine IfB_not (fun h => ?_) (fun h => ?_) | with_reducible refine Guard_split (fun h => ?_) (fun h => ?_) | with_reducible refine IfB_split (fun h => ?_) (fun h => ?_))
    refine WX_rows hT hmix [(0, none), (1, none), (2, none), (3, none), (4, none), (5, none), (6, none), (7, none), (8, none)] (by kernel_rfl) ?_
    repeat' (first | simp only [go_sem, Nat.reduceLT, Nat.reduceEqDiff, Nat.reduceAdd, Nat.reduceMul, Nat.reduceSub, Nat.reduceLeDiff, Int.reduceToNat, Int.reduceNeg, Int.reduceLT, Int.reduceLE, Int.reduceEq, reduceCtorEq, Int.natCast_zero, Int.natCast_one, Int.cast_ofNat_Int, Bool.not_not, false_eq_decide, true_eq_decide, hread0, hreadk, read_cons0, read_consk, astore_h0, astore_hk, hget0, hgetk, hset0, hsetk, hlen, hcat, Nat.add_assoc, Nat.add_zero, Nat.zero_add, List.length_append, and_true, true_and, AV.flat, str_cells, *, -hK, -hl, -ht] | with_reducible refine IfB_dec (fun h => ?_) (fun h => ?_) | with_reducible refine Guard_dec (fun h => ?_) (fun h => ?_) | with_reducible refine Guard_ndec (fun h => ?_) (fun h => ?_) | with_reducible refine Guard_not (fun h => ?_) (fun h => ?_) | with_reducible refine IfB_ndec (fun h => ?_) (fun h => ?_) | with_reducible refine IfB_not (fun h => ?_) (fun h => ?_) | with_reducible refine Guard_split (fun h => ?_) (fun h => ?_) | with_reducible refine IfB_split (fun h => ?_) (fun h => ?_))
    case refine_1 =>
      refine hK _ _ ⟨?_, rfl⟩
      congr 1; symm; rw [decide_eq_false_iff_not]; intro heq; subst heq; exact absurd rfl h
    case refine_2 =>
      exact hR _ _ (by (repeat (first | exact hs | refine hA _ _ _ (by decide) ?_))) (xs.length - (i + 1)) (by omega) ⟨i + 1, rfl, by omega, by simp only [go_sem, Nat.reduceLT, Nat.reduceEqDiff, Nat.reduceAdd, Nat.reduceMul, Nat.reduceSub, Nat.reduceLeDiff, Int.reduceToNat, Int.reduceNeg, Int.reduceLT, Int.reduceLE, Int.reduceEq, reduceCtorEq], by rw [List.take_succ_eq_append_getElem hlt, List.take_succ_eq_append_getElem (show i < ys.length by omega), ht, h], rfl⟩
  · have h1 : ¬ (i : Int) < xs.length := by omega
    repeat' (first | simp only [go_sem, Nat.reduceLT, Nat.reduceEqDiff, Nat.reduceAdd, Nat.reduceMul, Nat.reduceSub, Nat.reduceLeDiff, Int.reduceToNat, Int.reduceNeg, Int.reduceLT, Int.reduceLE, Int.reduceEq, reduceCtorEq, Int.natCast_zero, Int.natCast_one, Int.cast_ofNat_Int, Bool.not_not, false_eq_decide, true_eq_decide, hread0, hreadk, read_cons0, read_consk, astore_h0, astore_hk, hget0, hgetk, hset0, hsetk, hlen, hcat, Nat.add_assoc, Nat.add_zero, Nat.zero_add, List.length_append, and_true, true_and, AV.flat, *, -hK, -hl, -ht] | with_reducible refine IfB_dec (fun h => ?_) (fun h => ?_) | with_reducible refine Guard_dec (fun h => ?_) (fun h => ?_) | with_reducible refine Guard_ndec (fun h => ?_) (fun h => ?_) | with_reducible refine Guard_not (fun h => ?_) (fun h => ?_) | with_reducible refine IfB_ndec (fun h => ?_) (fun h => ?_) | with_reducible refine IfB_not (fun h => ?_) (fun h => ?_) | with_reducible refine Guard_split (fun h => ?_) (fun h => ?_) | with_reducible refine IfB_split (fun h => ?_) (fun h => ?_))
    refine hK _ _ ⟨?_, rfl⟩
    congr 1; symm; rw [decide_eq_true_eq]
    rw [List.take_of_length_le (by omega), List.take_of_length_le (by omega)] at ht
    exact ht
theorem sameCmd01_spec (a b : Cmd) (ha : a.keys.length ≤ 140737488355328) (H : Heap) : WC Try.prog 28 [a.av, b.av] H fun r H' => r = .bool (decide (a = b)) ∧ H' = H := by
  obtain ⟨k1, t1, q1, v1, f1, o1, u1, y1⟩ := a
  obtain ⟨k2, t2, q2, v2, f2, o2, u2, y2⟩ := b
  refine WC_val fun K hK => ?_
  have st := fun J => sameTexts_spec q1 q2 ha J
  unfold Cmd.av
  refine WC_of_body hT Try.func28 rfl (by simp [Try.f28]) (by simp [Try.f28]) (wx_sound hT _ ?_)
  simp only [Try.f28]
  repeat' (first | simp only [go_sem, Nat.reduceLT, Nat.reduceEqDiff, Nat.reduceAdd, Nat.reduceMul, Nat.reduceSub, Nat.reduceLeDiff, Int.reduceToNat, Int.reduceNeg, Int.reduceLT, Int.reduceLE, Int.reduceEq, reduceCtorEq, Int.natCast_zero, Int.natCast_one, Int.cast_ofNat_Int, Bool.not_not, false_eq_decide, true_eq_decide, hread0, hreadk, read_cons0, read_consk, astore_h0, astore_hk, hget0, hgetk, hset0, hsetk, hlen, hcat, Nat.add_assoc, Nat.add_zero, Nat.zero_add, List.length_append, and_true, true_and, AV.flat, *, -hK, -st] | refine WC.call (st _) ?_ | with_reducible refine IfB_dec (fun h => ?_) (fun h => ?_) | with_reducible refine Guard_dec (fun h => ?_) (fun h => ?_) | with_reducible refine Guard_ndec (fun h => ?_) (fun h => ?_) | with_reducible refine Guard_not (fun h => ?_) (fun h => ?_) | with_reducible refine IfB_ndec (fun h => ?_) (fun h => ?_) | with_reducible refine IfB_not (fun h => ?_) (fun h => ?_) | with_reducible refine Guard_split (fun h => ?_) (fun h => ?_) | with_reducible refine IfB_split (fun h => ?_) (fun h => ?_))
  all_goals
    refine hK _ _ (Thaw.of_eq ?_ rfl) (Keep.app _ _ _)
    simp only [Cmd.mk.injEq]
    first
      | (subst_vars; simp; done)
      | (subst_vars; simp_all; done)
theorem commandL_len (c : Cmd) (ho : c.Ok) : (commandL c).1.length ≤ 1000 := by
  unfold commandL
  split
  · rename_i hs
    obtain ⟨h0, h1, h2, h3, h4, h5, h6, h7, h8⟩ := shaped_facts hs
    have a1 := numsL_len [c.ten, (c.keys.length : Int)]
    have a2 := textsL_len (l := c.keys) (m := 32) h0 (by omega)
    have a3 := textsL_len (l := [c.val]) (m := 512) (by simpa using h6) (by omega)
    have a4 := numsL_len [c.flags, c.for_]
    have a5 := small_len10 (n := c.uniq.toNat) (by have := ho.uniq; omega)
    have a6 := small_len10 (n := c.by_.toNat) (by have := ho.by_; omega)
    simp only [List.length_cons, List.length_nil] at a1 a2 a3 a4
    simp only [cmdL, List.length_append, List.length_cons, List.length_nil]
    omega
  · simp
end Go.Proofs.Ytakmlfbejbelaaa
