import Derived.Test.YtakmlfbejbelaaaCodeI
import Derived.Test.YtakmlfbejbelaaaPiYa
set_option linter.unusedSimpArgs false
set_option linter.unusedVariables false
set_option maxRecDepth 100000
set_option maxHeartbeats 2000000
namespace Go.Proofs.Ytakmlfbejbelaaa
open Go Go.Proofs Go.Proofs.PI
/-! ### who may be -/
theorem tenanted_spec (n : Int) (H : Heap) : WC Try.prog 36 [.int .i64 n] H fun r H' => r = .bool (decide (0 ≤ n ∧ n < 4)) ∧ H' = H := by
  refine WC_of_K fun K hK => ?_
  refine WC_of_body hT Try.func36 rfl (by simp [Try.f36]) (by simp [Try.f36]) (wx_sound hT _ ?_)
  simp only [Try.f36]
  simp only [go_sem, Nat.reduceLT, Nat.reduceEqDiff, Nat.reduceAdd, Nat.reduceMul, Nat.reduceSub, Nat.reduceLeDiff, Int.reduceToNat, Int.reduceNeg, Int.reduceLT, Int.reduceLE, Int.reduceEq, reduceCtorEq]
  refine Guard_split (fun h => ?_) (fun h => ?_)
  · simp only [go_sem, Nat.reduceLT, Nat.reduceEqDiff, Nat.reduceAdd, Nat.reduceMul, Nat.reduceSub, Nat.reduceLeDiff, Int.reduceToNat, Int.reduceNeg, Int.reduceLT, Int.reduceLE, Int.reduceEq, reduceCtorEq, h]
    refine hK _ _ ⟨?_, rfl⟩
    simp at h; simp [h]
  · simp only [go_sem, Nat.reduceLT, Nat.reduceEqDiff, Nat.reduceAdd, Nat.reduceMul, Nat.reduceSub, Nat.reduceLeDiff, Int.reduceToNat, Int.reduceNeg, Int.reduceLT, Int.reduceLE, Int.reduceEq, reduceCtorEq, h]
    refine hK _ _ ⟨?_, rfl⟩
    simp at h; simp; omega
theorem refTenant_spec (n : Int) (H : Heap) : WC Try.prog 38 [.int .i64 n] H fun r H' => r = .bool (decide (0 ≤ n ∧ n < 4)) ∧ H' = H := by
  refine WC_of_K fun K hK => ?_
  refine WC_of_body hT Try.func38 rfl (by simp [Try.f38]) (by simp [Try.f38]) (wx_sound hT _ ?_)
  simp only [Try.f38]
  simp only [go_sem, Nat.reduceLT, Nat.reduceEqDiff, Nat.reduceAdd, Nat.reduceMul, Nat.reduceSub, Nat.reduceLeDiff, Int.reduceToNat, Int.reduceNeg, Int.reduceLT, Int.reduceLE, Int.reduceEq, reduceCtorEq]
  refine Guard_split (fun h => ?_) (fun h => ?_)
  · simp only [go_sem, Nat.reduceLT, Nat.reduceEqDiff, Nat.reduceAdd, Nat.reduceMul, Nat.reduceSub, Nat.reduceLeDiff, Int.reduceToNat, Int.reduceNeg, Int.reduceLT, Int.reduceLE, Int.reduceEq, reduceCtorEq, h]
    refine hK _ _ ⟨?_, rfl⟩
    simp at h; simp [h]
  · simp only [go_sem, Nat.reduceLT, Nat.reduceEqDiff, Nat.reduceAdd, Nat.reduceMul, Nat.reduceSub, Nat.reduceLeDiff, Int.reduceToNat, Int.reduceNeg, Int.reduceLT, Int.reduceLE, Int.reduceEq, reduceCtorEq, h]
    refine hK _ _ ⟨?_, rfl⟩
    simp at h; simp; omega
def keyB (s : List UInt8) : Bool := decide (1 ≤ s.length ∧ s.length ≤ 32)
theorem keyed_spec (s : List UInt8) (H : Heap) : WC Try.prog 37 [.str s] H fun r H' => r = .bool (keyB s) ∧ H' = H := by
  refine WC_of_K fun K hK => ?_
  refine WC_of_body hT Try.func37 rfl (by simp [Try.f37]) (by simp [Try.f37]) (wx_sound hT _ ?_)
  simp only [Try.f37]
  simp only [go_sem, Nat.reduceLT, Nat.reduceEqDiff, Nat.reduceAdd, Nat.reduceMul, Nat.reduceSub, Nat.reduceLeDiff, Int.reduceToNat, Int.reduceNeg, Int.reduceLT, Int.reduceLE, Int.reduceEq, reduceCtorEq]
  refine Guard_split (fun h => ?_) (fun h => ?_)
  · simp only [go_sem, Nat.reduceLT, Nat.reduceEqDiff, Nat.reduceAdd, Nat.reduceMul, Nat.reduceSub, Nat.reduceLeDiff, Int.reduceToNat, Int.reduceNeg, Int.reduceLT, Int.reduceLE, Int.reduceEq, reduceCtorEq, h]
    refine hK _ _ ⟨?_, rfl⟩
    simp at h; have := List.length_pos_iff.2 h
    refine congrArg AV.bool ?_; rw [Bool.eq_iff_iff]; simp [keyB]; omega
  · simp only [go_sem, Nat.reduceLT, Nat.reduceEqDiff, Nat.reduceAdd, Nat.reduceMul, Nat.reduceSub, Nat.reduceLeDiff, Int.reduceToNat, Int.reduceNeg, Int.reduceLT, Int.reduceLE, Int.reduceEq, reduceCtorEq, h]
    refine hK _ _ ⟨?_, rfl⟩
    simp at h; subst h; simp [keyB]
theorem refKey_spec (s : List UInt8) (H : Heap) : WC Try.prog 39 [.str s] H fun r H' => r = .bool (keyB s) ∧ H' = H := by
  refine WC_of_K fun K hK => ?_
  refine WC_of_body hT Try.func39 rfl (by simp [Try.f39]) (by simp [Try.f39]) (wx_sound hT _ ?_)
  simp only [Try.f39]
  simp only [go_sem, Nat.reduceLT, Nat.reduceEqDiff, Nat.reduceAdd, Nat.reduceMul, Nat.reduceSub, Nat.reduceLeDiff, Int.reduceToNat, Int.reduceNeg, Int.reduceLT, Int.reduceLE, Int.reduceEq, reduceCtorEq]
  refine Guard_split (fun h => ?_) (fun h => ?_)
  · simp only [go_sem, Nat.reduceLT, Nat.reduceEqDiff, Nat.reduceAdd, Nat.reduceMul, Nat.reduceSub, Nat.reduceLeDiff, Int.reduceToNat, Int.reduceNeg, Int.reduceLT, Int.reduceLE, Int.reduceEq, reduceCtorEq, h]
    refine hK _ _ ⟨?_, rfl⟩
    simp at h
    refine congrArg AV.bool ?_; rw [Bool.eq_iff_iff]; simp [keyB]; omega
  · simp only [go_sem, Nat.reduceLT, Nat.reduceEqDiff, Nat.reduceAdd, Nat.reduceMul, Nat.reduceSub, Nat.reduceLeDiff, Int.reduceToNat, Int.reduceNeg, Int.reduceLT, Int.reduceLE, Int.reduceEq, reduceCtorEq, h]
    refine hK _ _ ⟨?_, rfl⟩
    simp at h
    refine congrArg AV.bool ?_; rw [Bool.eq_iff_iff]; simp [keyB]; omega

/-! ### the hash -/
def hstep (h : Int) (b : UInt8) : Int := IntKind.u64.wrap (IntKind.u64.wrap (BitVec.ofInt IntKind.u64.bits h ^^^ BitVec.ofInt IntKind.u64.bits (IntKind.u64.wrap b.toNat)).toNat * 1099511628211)
def hash (s : List UInt8) : Int := s.foldl hstep 14695981039346656037
theorem hash_snoc (s : List UInt8) (i : Nat) (h : i < s.length) : hash (s.take (i + 1)) = hstep (hash (s.take i)) s[i] := by
  rw [hash, List.take_succ_eq_append_getElem h, List.foldl_append]; rfl
theorem hash_spec (s : List UInt8) (hs : s.length ≤ 140737488355328) (H : Heap) : WC Try.prog 14 [.str s] H fun r H' => r = .int .u64 (hash s) ∧ Keep none H H' := by
  refine WC_of_K fun K hK => ?_
  refine WC_of_body hT Try.func14 rfl (by simp [Try.f14]) (by simp [Try.f14]) (wx_sound hT _ ?_)
  simp only [Try.f14]
  simp only [go_sem, Nat.reduceLT, Nat.reduceEqDiff, Nat.reduceAdd, Nat.reduceMul, Nat.reduceSub, Nat.reduceLeDiff, Int.reduceToNat, Int.reduceNeg, Int.reduceLT, Int.reduceLE, Int.reduceEq, reduceCtorEq]
  rw [if_pos hs]
  simp only [go_sem, Nat.reduceLT, Nat.reduceEqDiff, Nat.reduceAdd, Nat.reduceMul, Nat.reduceSub, Nat.reduceLeDiff, Int.reduceToNat, Int.reduceNeg, Int.reduceLT, Int.reduceLE, Int.reduceEq, reduceCtorEq]
  refine WX_loop (fun m fr' H' => ∃ i : Nat, m = s.length - i ∧ i ≤ s.length ∧ fr'.get 7 = .sl H.length 0 s.length none ∧ fr'.get 8 = .int .i64 s.length ∧ fr'.get 9 = .int .i64 i ∧ fr'.get 3 = .int .u64 (hash (s.take i)) ∧ H' = H ++ [⟨s.map fun b => .int .u8 b.toNat, 1, .opn⟩]) s.length ⟨0, rfl, Nat.zero_le _, ?_, ?_, ?_, ?_, rfl⟩ ?_
  · simp only [go_sem, Nat.reduceLT, Nat.reduceEqDiff, Nat.reduceAdd, Nat.reduceMul, Nat.reduceSub, Nat.reduceLeDiff, Int.reduceToNat, Int.reduceNeg, Int.reduceLT, Int.reduceLE, Int.reduceEq, reduceCtorEq]
  · simp only [go_sem, Nat.reduceLT, Nat.reduceEqDiff, Nat.reduceAdd, Nat.reduceMul, Nat.reduceSub, Nat.reduceLeDiff, Int.reduceToNat, Int.reduceNeg, Int.reduceLT, Int.reduceLE, Int.reduceEq, reduceCtorEq]
  · simp only [go_sem, Nat.reduceLT, Nat.reduceEqDiff, Nat.reduceAdd, Nat.reduceMul, Nat.reduceSub, Nat.reduceLeDiff, Int.reduceToNat, Int.reduceNeg, Int.reduceLT, Int.reduceLE, Int.reduceEq, reduceCtorEq]
    rfl
  · simp only [go_sem, Nat.reduceLT, Nat.reduceEqDiff, Nat.reduceAdd, Nat.reduceMul, Nat.reduceSub, Nat.reduceLeDiff, Int.reduceToNat, Int.reduceNeg, Int.reduceLT, Int.reduceLE, Int.reduceEq, reduceCtorEq]
    simp [hash]
  · rintro m fr' H' ⟨i, rfl, hi, h7, h8, h9, h3, rfl⟩
    refine wx_sound hT _ ?_
    simp only [go_sem, Nat.reduceLT, Nat.reduceEqDiff, Nat.reduceAdd, Nat.reduceMul, Nat.reduceSub, Nat.reduceLeDiff, Int.reduceToNat, Int.reduceNeg, Int.reduceLT, Int.reduceLE, Int.reduceEq, reduceCtorEq, h7, h8, h9, h3]
    refine IfB_dec (fun hlt => ?_) (fun hge => ?_)
    · have hlt' : i < s.length := by omega
      simp only [go_sem, Nat.reduceLT, Nat.reduceEqDiff, Nat.reduceAdd, Nat.reduceMul, Nat.reduceSub, Nat.reduceLeDiff, Int.reduceToNat, Int.reduceNeg, Int.reduceLT, Int.reduceLE, Int.reduceEq, reduceCtorEq, h7, h8, h9, h3, if_pos (show (0 : Int) ≤ i ∧ (i : Int) < s.length from ⟨by omega, hlt⟩), Int.toNat_natCast, Nat.mul_one, Nat.zero_add]
      rw [read_at (B := ⟨s.map fun b => .int .u8 b.toNat, 1, .opn⟩) (a := .int .u8 s[i].toNat) (by simp) rfl (by simp [hlt'])]
      simp only [go_sem, Nat.reduceLT, Nat.reduceEqDiff, Nat.reduceAdd, Nat.reduceMul, Nat.reduceSub, Nat.reduceLeDiff, Int.reduceToNat, Int.reduceNeg, Int.reduceLT, Int.reduceLE, Int.reduceEq, reduceCtorEq, h7, h8, h9, h3, i64_id (i + 1 : Int) (by omega) (by omega)]
      refine ⟨s.length - (i + 1), by omega, i + 1, rfl, by omega, ?_, ?_, ?_, ?_, rfl⟩
      · simp only [go_sem, Nat.reduceLT, Nat.reduceEqDiff, Nat.reduceAdd, Nat.reduceMul, Nat.reduceSub, Nat.reduceLeDiff, Int.reduceToNat, Int.reduceNeg, Int.reduceLT, Int.reduceLE, Int.reduceEq, reduceCtorEq, h7]
      · simp only [go_sem, Nat.reduceLT, Nat.reduceEqDiff, Nat.reduceAdd, Nat.reduceMul, Nat.reduceSub, Nat.reduceLeDiff, Int.reduceToNat, Int.reduceNeg, Int.reduceLT, Int.reduceLE, Int.reduceEq, reduceCtorEq, h8]
      · simp only [go_sem, Nat.reduceLT, Nat.reduceEqDiff, Nat.reduceAdd, Nat.reduceMul, Nat.reduceSub, Nat.reduceLeDiff, Int.reduceToNat, Int.reduceNeg, Int.reduceLT, Int.reduceLE, Int.reduceEq, reduceCtorEq]
        rfl
      · simp only [go_sem, Nat.reduceLT, Nat.reduceEqDiff, Nat.reduceAdd, Nat.reduceMul, Nat.reduceSub, Nat.reduceLeDiff, Int.reduceToNat, Int.reduceNeg, Int.reduceLT, Int.reduceLE, Int.reduceEq, reduceCtorEq]
        rw [hash_snoc s i hlt']; rfl
    · have : i = s.length := by omega
      subst this
      simp only [go_sem, Nat.reduceLT, Nat.reduceEqDiff, Nat.reduceAdd, Nat.reduceMul, Nat.reduceSub, Nat.reduceLeDiff, Int.reduceToNat, Int.reduceNeg, Int.reduceLT, Int.reduceLE, Int.reduceEq, reduceCtorEq, h3]
      refine hK _ _ ⟨?_, Keep.snoc _ _ _⟩
      rw [List.take_length]
theorem refHash_spec (s : List UInt8) (hs : s.length ≤ 140737488355328) (H : Heap) : WC Try.prog 15 [.str s] H fun r H' => r = .int .u64 (hash s) ∧ Keep none H H' := by
  refine WC_of_K fun K hK => ?_
  refine WC_of_body hT Try.func15 rfl (by simp [Try.f15]) (by simp [Try.f15]) (wx_sound hT _ ?_)
  simp only [Try.f15]
  simp only [go_sem, Nat.reduceLT, Nat.reduceEqDiff, Nat.reduceAdd, Nat.reduceMul, Nat.reduceSub, Nat.reduceLeDiff, Int.reduceToNat, Int.reduceNeg, Int.reduceLT, Int.reduceLE, Int.reduceEq, reduceCtorEq]
  refine WX_loop (fun m fr' H' => ∃ i : Nat, m = s.length - i ∧ i ≤ s.length ∧ fr'.get 0 = .str s ∧ fr'.get 4 = .int .i64 i ∧ fr'.get 3 = .int .u64 (hash (s.take i)) ∧ H' = H) s.length ⟨0, rfl, Nat.zero_le _, ?_, ?_, ?_, rfl⟩ ?_
  · simp only [go_sem, Nat.reduceLT, Nat.reduceEqDiff, Nat.reduceAdd, Nat.reduceMul, Nat.reduceSub, Nat.reduceLeDiff, Int.reduceToNat, Int.reduceNeg, Int.reduceLT, Int.reduceLE, Int.reduceEq, reduceCtorEq]
  · simp only [go_sem, Nat.reduceLT, Nat.reduceEqDiff, Nat.reduceAdd, Nat.reduceMul, Nat.reduceSub, Nat.reduceLeDiff, Int.reduceToNat, Int.reduceNeg, Int.reduceLT, Int.reduceLE, Int.reduceEq, reduceCtorEq]
    rfl
  · simp only [go_sem, Nat.reduceLT, Nat.reduceEqDiff, Nat.reduceAdd, Nat.reduceMul, Nat.reduceSub, Nat.reduceLeDiff, Int.reduceToNat, Int.reduceNeg, Int.reduceLT, Int.reduceLE, Int.reduceEq, reduceCtorEq]
    simp [hash]
  · rintro m fr' H' ⟨i, rfl, hi, h0, h4, h3, rfl⟩
    refine wx_sound hT _ ?_
    simp only [go_sem, Nat.reduceLT, Nat.reduceEqDiff, Nat.reduceAdd, Nat.reduceMul, Nat.reduceSub, Nat.reduceLeDiff, Int.reduceToNat, Int.reduceNeg, Int.reduceLT, Int.reduceLE, Int.reduceEq, reduceCtorEq, h0, h4, h3]
    refine IfB_dec (fun hlt => ?_) (fun hge => ?_)
    · have hlt' : i < s.length := by omega
      simp only [go_sem, Nat.reduceLT, Nat.reduceEqDiff, Nat.reduceAdd, Nat.reduceMul, Nat.reduceSub, Nat.reduceLeDiff, Int.reduceToNat, Int.reduceNeg, Int.reduceLT, Int.reduceLE, Int.reduceEq, reduceCtorEq, h0, h4, h3, if_pos (show (0 : Int) ≤ i by omega), Int.toNat_natCast, List.getElem?_eq_getElem hlt', i64_id (i + 1 : Int) (by omega) (by omega)]
      refine ⟨s.length - (i + 1), by omega, i + 1, rfl, by omega, ?_, ?_, ?_, rfl⟩
      · simp only [go_sem, Nat.reduceLT, Nat.reduceEqDiff, Nat.reduceAdd, Nat.reduceMul, Nat.reduceSub, Nat.reduceLeDiff, Int.reduceToNat, Int.reduceNeg, Int.reduceLT, Int.reduceLE, Int.reduceEq, reduceCtorEq, h0]
      · simp only [go_sem, Nat.reduceLT, Nat.reduceEqDiff, Nat.reduceAdd, Nat.reduceMul, Nat.reduceSub, Nat.reduceLeDiff, Int.reduceToNat, Int.reduceNeg, Int.reduceLT, Int.reduceLE, Int.reduceEq, reduceCtorEq]
        rfl
      · simp only [go_sem, Nat.reduceLT, Nat.reduceEqDiff, Nat.reduceAdd, Nat.reduceMul, Nat.reduceSub, Nat.reduceLeDiff, Int.reduceToNat, Int.reduceNeg, Int.reduceLT, Int.reduceLE, Int.reduceEq, reduceCtorEq]
        rw [hash_snoc s i hlt']; rfl
    · have : i = s.length := by omega
      subst this
      simp only [go_sem, Nat.reduceLT, Nat.reduceEqDiff, Nat.reduceAdd, Nat.reduceMul, Nat.reduceSub, Nat.reduceLeDiff, Int.reduceToNat, Int.reduceNeg, Int.reduceLT, Int.reduceLE, Int.reduceEq, reduceCtorEq, h3]
      refine hK _ _ ⟨?_, Keep.refl _ _⟩
      rw [List.take_length]

/-! ### shards -/
/-- The byte that a tenant is. -/
def tbyte (n : Int) : UInt8 := UInt8.ofNat (IntKind.u8.wrap n).toNat
def shardL (t : Int) (k : List UInt8) (n : Int) : Int × Int :=
  if ¬ (0 ≤ t ∧ t < 4) then (0, 2) else if keyB k = false then (0, 3) else if n < 1 ∨ n > 4 then (0, 2) else
    (IntKind.i64.wrap ((hash (tbyte t :: k)).tmod (IntKind.u64.wrap n)), 0)
theorem shard_spec (t : Int) (k : List UInt8) (n : Int) (hk : k.length ≤ 100000) (H : Heap) :
    WC Try.prog 12 [.int .i64 t, .str k, .int .i64 n] H fun r H' => r = .tup [.int .i64 (shardL t k n).1, .int .i64 (shardL t k n).2] ∧ Keep none H H' := by
  refine WC_of_K fun K hK => ?_
  refine WC_of_body hT Try.func12 rfl (by simp [Try.f12]) (by simp [Try.f12]) (wx_sound hT _ ?_)
  simp only [Try.f12]
  simp only [go_sem, Nat.reduceLT, Nat.reduceEqDiff, Nat.reduceAdd, Nat.reduceMul, Nat.reduceSub, Nat.reduceLeDiff, Int.reduceToNat, Int.reduceNeg, Int.reduceLT, Int.reduceLE, Int.reduceEq, reduceCtorEq]
  refine (tenanted_spec _ _).mono ?_
  rintro r H' ⟨rfl, rfl⟩
  simp only [go_sem, Nat.reduceLT, Nat.reduceEqDiff, Nat.reduceAdd, Nat.reduceMul, Nat.reduceSub, Nat.reduceLeDiff, Int.reduceToNat, Int.reduceNeg, Int.reduceLT, Int.reduceLE, Int.reduceEq, reduceCtorEq]
  refine IfB_split (fun h => ?_) (fun h => ?_)
  · simp only [go_sem, Nat.reduceLT, Nat.reduceEqDiff, Nat.reduceAdd, Nat.reduceMul, Nat.reduceSub, Nat.reduceLeDiff, Int.reduceToNat, Int.reduceNeg, Int.reduceLT, Int.reduceLE, Int.reduceEq, reduceCtorEq]
    refine hK _ _ ⟨?_, Keep.refl _ _⟩
    simp at h
    rw [shardL, if_pos (by omega)]
  · simp only [go_sem, Nat.reduceLT, Nat.reduceEqDiff, Nat.reduceAdd, Nat.reduceMul, Nat.reduceSub, Nat.reduceLeDiff, Int.reduceToNat, Int.reduceNeg, Int.reduceLT, Int.reduceLE, Int.reduceEq, reduceCtorEq]
    refine (keyed_spec _ _).mono ?_
    rintro r H' ⟨rfl, rfl⟩
    simp only [go_sem, Nat.reduceLT, Nat.reduceEqDiff, Nat.reduceAdd, Nat.reduceMul, Nat.reduceSub, Nat.reduceLeDiff, Int.reduceToNat, Int.reduceNeg, Int.reduceLT, Int.reduceLE, Int.reduceEq, reduceCtorEq]
    refine IfB_split (fun h2 => ?_) (fun h2 => ?_)
    · simp only [go_sem, Nat.reduceLT, Nat.reduceEqDiff, Nat.reduceAdd, Nat.reduceMul, Nat.reduceSub, Nat.reduceLeDiff, Int.reduceToNat, Int.reduceNeg, Int.reduceLT, Int.reduceLE, Int.reduceEq, reduceCtorEq]
      refine hK _ _ ⟨?_, Keep.refl _ _⟩
      simp at h h2
      rw [shardL, if_neg (by omega), if_pos h2]
    · simp at h h2
      simp only [go_sem, Nat.reduceLT, Nat.reduceEqDiff, Nat.reduceAdd, Nat.reduceMul, Nat.reduceSub, Nat.reduceLeDiff, Int.reduceToNat, Int.reduceNeg, Int.reduceLT, Int.reduceLE, Int.reduceEq, reduceCtorEq]
      refine Guard_not (fun h3 => ?_) (fun h3 => ?_)
      · simp only [go_sem, Nat.reduceLT, Nat.reduceEqDiff, Nat.reduceAdd, Nat.reduceMul, Nat.reduceSub, Nat.reduceLeDiff, Int.reduceToNat, Int.reduceNeg, Int.reduceLT, Int.reduceLE, Int.reduceEq, reduceCtorEq, h3]
        simp at h3
        refine IfB_dec (fun h4 => ?_) (fun h4 => ?_)
        · simp only [go_sem, Nat.reduceLT, Nat.reduceEqDiff, Nat.reduceAdd, Nat.reduceMul, Nat.reduceSub, Nat.reduceLeDiff, Int.reduceToNat, Int.reduceNeg, Int.reduceLT, Int.reduceLE, Int.reduceEq, reduceCtorEq]
          refine hK _ _ ⟨?_, Keep.refl _ _⟩
          rw [shardL, if_neg (by omega), if_neg (by simp [h2]), if_pos (by omega)]
        · simp only [go_sem, Nat.reduceLT, Nat.reduceEqDiff, Nat.reduceAdd, Nat.reduceMul, Nat.reduceSub, Nat.reduceLeDiff, Int.reduceToNat, Int.reduceNeg, Int.reduceLT, Int.reduceLE, Int.reduceEq, reduceCtorEq]
          rw [if_pos (by omega)]
          simp only [go_sem, Nat.reduceLT, Nat.reduceEqDiff, Nat.reduceAdd, Nat.reduceMul, Nat.reduceSub, Nat.reduceLeDiff, Int.reduceToNat, Int.reduceNeg, Int.reduceLT, Int.reduceLE, Int.reduceEq, reduceCtorEq]
          refine (hash_spec _ (by simp; omega) _).mono ?_
          rintro r H' ⟨rfl, hk2⟩
          simp only [go_sem, Nat.reduceLT, Nat.reduceEqDiff, Nat.reduceAdd, Nat.reduceMul, Nat.reduceSub, Nat.reduceLeDiff, Int.reduceToNat, Int.reduceNeg, Int.reduceLT, Int.reduceLE, Int.reduceEq, reduceCtorEq]
          have hn : IntKind.u64.wrap n = n := by rw [IntKind.wrap_u64]; omega
          rw [hn]
          rw [if_pos (by omega)]
          simp only [go_sem, Nat.reduceLT, Nat.reduceEqDiff, Nat.reduceAdd, Nat.reduceMul, Nat.reduceSub, Nat.reduceLeDiff, Int.reduceToNat, Int.reduceNeg, Int.reduceLT, Int.reduceLE, Int.reduceEq, reduceCtorEq]
          refine hK _ _ ⟨?_, (Keep.snoc _ _ _).trans hk2⟩
          rw [shardL, if_neg (by omega), if_neg (by simp [h2]), if_neg (by omega), hn]; rfl
      · simp only [go_sem, Nat.reduceLT, Nat.reduceEqDiff, Nat.reduceAdd, Nat.reduceMul, Nat.reduceSub, Nat.reduceLeDiff, Int.reduceToNat, Int.reduceNeg, Int.reduceLT, Int.reduceLE, Int.reduceEq, reduceCtorEq, h3]
        simp at h3
        refine hK _ _ ⟨?_, Keep.refl _ _⟩
        rw [shardL, if_neg (by omega), if_neg (by simp [h2]), if_pos (by omega)]
theorem refShard_spec (t : Int) (k : List UInt8) (n : Int) (hk : k.length ≤ 100000) (H : Heap) :
    WC Try.prog 13 [.int .i64 t, .str k, .int .i64 n] H fun r H' => r = .tup [.int .i64 (shardL t k n).1, .int .i64 (shardL t k n).2] ∧ Keep none H H' := by
  refine WC_of_K fun K hK => ?_
  refine WC_of_body hT Try.func13 rfl (by simp [Try.f13]) (by simp [Try.f13]) (wx_sound hT _ ?_)
  simp only [Try.f13]
  simp only [go_sem, Nat.reduceLT, Nat.reduceEqDiff, Nat.reduceAdd, Nat.reduceMul, Nat.reduceSub, Nat.reduceLeDiff, Int.reduceToNat, Int.reduceNeg, Int.reduceLT, Int.reduceLE, Int.reduceEq, reduceCtorEq]
  refine (refTenant_spec _ _).mono ?_
  rintro r H' ⟨rfl, rfl⟩
  simp only [go_sem, Nat.reduceLT, Nat.reduceEqDiff, Nat.reduceAdd, Nat.reduceMul, Nat.reduceSub, Nat.reduceLeDiff, Int.reduceToNat, Int.reduceNeg, Int.reduceLT, Int.reduceLE, Int.reduceEq, reduceCtorEq]
  refine IfB_split (fun h => ?_) (fun h => ?_)
  · simp only [go_sem, Nat.reduceLT, Nat.reduceEqDiff, Nat.reduceAdd, Nat.reduceMul, Nat.reduceSub, Nat.reduceLeDiff, Int.reduceToNat, Int.reduceNeg, Int.reduceLT, Int.reduceLE, Int.reduceEq, reduceCtorEq]
    refine hK _ _ ⟨?_, Keep.refl _ _⟩
    simp at h
    rw [shardL, if_pos (by omega)]
  · simp only [go_sem, Nat.reduceLT, Nat.reduceEqDiff, Nat.reduceAdd, Nat.reduceMul, Nat.reduceSub, Nat.reduceLeDiff, Int.reduceToNat, Int.reduceNeg, Int.reduceLT, Int.reduceLE, Int.reduceEq, reduceCtorEq]
    refine (refKey_spec _ _).mono ?_
    rintro r H' ⟨rfl, rfl⟩
    simp only [go_sem, Nat.reduceLT, Nat.reduceEqDiff, Nat.reduceAdd, Nat.reduceMul, Nat.reduceSub, Nat.reduceLeDiff, Int.reduceToNat, Int.reduceNeg, Int.reduceLT, Int.reduceLE, Int.reduceEq, reduceCtorEq]
    refine IfB_split (fun h2 => ?_) (fun h2 => ?_)
    · simp only [go_sem, Nat.reduceLT, Nat.reduceEqDiff, Nat.reduceAdd, Nat.reduceMul, Nat.reduceSub, Nat.reduceLeDiff, Int.reduceToNat, Int.reduceNeg, Int.reduceLT, Int.reduceLE, Int.reduceEq, reduceCtorEq]
      refine hK _ _ ⟨?_, Keep.refl _ _⟩
      simp at h h2
      rw [shardL, if_neg (by omega), if_pos h2]
    · simp at h h2
      simp only [go_sem, Nat.reduceLT, Nat.reduceEqDiff, Nat.reduceAdd, Nat.reduceMul, Nat.reduceSub, Nat.reduceLeDiff, Int.reduceToNat, Int.reduceNeg, Int.reduceLT, Int.reduceLE, Int.reduceEq, reduceCtorEq]
      refine Guard_not (fun h3 => ?_) (fun h3 => ?_)
      · simp only [go_sem, Nat.reduceLT, Nat.reduceEqDiff, Nat.reduceAdd, Nat.reduceMul, Nat.reduceSub, Nat.reduceLeDiff, Int.reduceToNat, Int.reduceNeg, Int.reduceLT, Int.reduceLE, Int.reduceEq, reduceCtorEq, h3]
        simp at h3
        refine IfB_dec (fun h4 => ?_) (fun h4 => ?_)
        · simp only [go_sem, Nat.reduceLT, Nat.reduceEqDiff, Nat.reduceAdd, Nat.reduceMul, Nat.reduceSub, Nat.reduceLeDiff, Int.reduceToNat, Int.reduceNeg, Int.reduceLT, Int.reduceLE, Int.reduceEq, reduceCtorEq]
          refine hK _ _ ⟨?_, Keep.refl _ _⟩
          rw [shardL, if_neg (by omega), if_neg (by simp [h2]), if_pos (by omega)]
        · simp only [go_sem, Nat.reduceLT, Nat.reduceEqDiff, Nat.reduceAdd, Nat.reduceMul, Nat.reduceSub, Nat.reduceLeDiff, Int.reduceToNat, Int.reduceNeg, Int.reduceLT, Int.reduceLE, Int.reduceEq, reduceCtorEq]
          rw [if_pos (by omega)]
          simp only [go_sem, Nat.reduceLT, Nat.reduceEqDiff, Nat.reduceAdd, Nat.reduceMul, Nat.reduceSub, Nat.reduceLeDiff, Int.reduceToNat, Int.reduceNeg, Int.reduceLT, Int.reduceLE, Int.reduceEq, reduceCtorEq]
          refine (refHash_spec _ (by simp; omega) _).mono ?_
          rintro r H' ⟨rfl, hk2⟩
          simp only [go_sem, Nat.reduceLT, Nat.reduceEqDiff, Nat.reduceAdd, Nat.reduceMul, Nat.reduceSub, Nat.reduceLeDiff, Int.reduceToNat, Int.reduceNeg, Int.reduceLT, Int.reduceLE, Int.reduceEq, reduceCtorEq]
          have hn : IntKind.u64.wrap n = n := by rw [IntKind.wrap_u64]; omega
          rw [hn]
          rw [if_pos (by omega)]
          simp only [go_sem, Nat.reduceLT, Nat.reduceEqDiff, Nat.reduceAdd, Nat.reduceMul, Nat.reduceSub, Nat.reduceLeDiff, Int.reduceToNat, Int.reduceNeg, Int.reduceLT, Int.reduceLE, Int.reduceEq, reduceCtorEq]
          refine hK _ _ ⟨?_, (Keep.snoc _ _ _).trans hk2⟩
          rw [shardL, if_neg (by omega), if_neg (by simp [h2]), if_neg (by omega), hn]; rfl
      · simp only [go_sem, Nat.reduceLT, Nat.reduceEqDiff, Nat.reduceAdd, Nat.reduceMul, Nat.reduceSub, Nat.reduceLeDiff, Int.reduceToNat, Int.reduceNeg, Int.reduceLT, Int.reduceLE, Int.reduceEq, reduceCtorEq, h3]
        simp at h3
        refine hK _ _ ⟨?_, Keep.refl _ _⟩
        rw [shardL, if_neg (by omega), if_neg (by simp [h2]), if_pos (by omega)]
theorem hashP (s : List UInt8) (hs : s.length ≤ 140737488355328) (H : Heap) : WC Try.prog 14 [.str s] H fun r H' => r = .int .u64 (hash s) ∧ H' = H :=
  WC_froze (Q := fun r => r = _) ((hash_spec s hs H).mono fun r H' ⟨h1, h2⟩ => ⟨_, by rw [h1]; exact .int _ _, h2, rfl⟩)
theorem shardP (t : Int) (k : List UInt8) (n : Int) (hk : k.length ≤ 100000) (H : Heap) : WC Try.prog 12 [.int .i64 t, .str k, .int .i64 n] H fun r H' => r = .tup [.int .i64 (shardL t k n).1, .int .i64 (shardL t k n).2] ∧ H' = H :=
  WC_froze (Q := fun r => r = _) ((shard_spec t k n hk H).mono fun r H' ⟨h1, h2⟩ => ⟨_, by rw [h1]; exact Thaw.tup_row ⟨.int _ _, .int _ _, trivial⟩, h2, rfl⟩)
theorem refShardP (t : Int) (k : List UInt8) (n : Int) (hk : k.length ≤ 100000) (H : Heap) : WC Try.prog 13 [.int .i64 t, .str k, .int .i64 n] H fun r H' => r = .tup [.int .i64 (shardL t k n).1, .int .i64 (shardL t k n).2] ∧ H' = H :=
  WC_froze (Q := fun r => r = _) ((refShard_spec t k n hk H).mono fun r H' ⟨h1, h2⟩ => ⟨_, by rw [h1]; exact Thaw.tup_row ⟨.int _ _, .int _ _, trivial⟩, h2, rfl⟩)
structure Cmd where
  kind : Int
  ten : Int
  keys : List (List UInt8)
  val : List UInt8
  flags : Int
  for_ : Int
  uniq : Int
  by_ : Int
deriving DecidableEq
def Cmd.av (c : Cmd) : AV := .agg [.int .u8 c.kind, .int .i64 c.ten, Enc.str.lst c.keys, .str c.val, .int .u32 c.flags, .int .i64 c.for_, .int .u64 c.uniq, .int .u64 c.by_]
def Cmd.cs (c : Cmd) : List AV := [.int .u8 c.kind, .int .i64 c.ten, Enc.str.lst c.keys, .str c.val, .int .u32 c.flags, .int .i64 c.for_, .int .u64 c.uniq, .int .u64 c.by_]
def cmd0 : Cmd := ⟨0, 0, [], [], 0, 0, 0, 0⟩
theorem str_cells (x : List UInt8) : Enc.str.cells x = [.str x] := rfl
theorem int_cells (x : Int) : (Enc.int .i64).cells x = [.int .i64 x] := rfl
/-! ### commands as bytes -/
theorem u8_src {H : Heap} {t e : TypeId} {l : List UInt8} (hk : tk T t = .slice e) : asrc T H t (Enc.u8.lst l) 1 = some (l.length, byc l) := by
  have := src_enc (E := Enc.u8) (T := T) (H := H) (xs := l) hk
  rw [Enc.u8_row] at this; exact this
structure Cmd.Ok (c : Cmd) : Prop where
  kind : 0 ≤ c.kind ∧ c.kind < 256
  flags : 0 ≤ c.flags ∧ c.flags < 4294967296
  uniq : 0 ≤ c.uniq ∧ c.uniq < 18446744073709551616
  by_ : 0 ≤ c.by_ ∧ c.by_ < 18446744073709551616
def shapedB (c : Cmd) : Bool := c.keys.all keyB && decide (1 ≤ c.kind ∧ c.kind ≤ 11 ∧ 0 ≤ c.ten ∧ c.ten < 4 ∧ c.keys.length ≤ 8 ∧ c.val.length ≤ 512 ∧ 0 ≤ c.for_ ∧ c.for_ ≤ 1099511627776)
def cmdL (c : Cmd) : List UInt8 := [UInt8.ofNat c.kind.toNat] ++ numsL [c.ten, c.keys.length] ++ textsL c.keys ++ textsL [c.val] ++ numsL [c.flags, c.for_] ++ small c.uniq.toNat ++ small c.by_.toNat
def commandL (c : Cmd) : List UInt8 × Int := if shapedB c = true then (cmdL c, 0) else ([], 8)
theorem all_step {xs : List (List UInt8)} {i : Nat} (h : i < xs.length) : (xs.take (i + 1)).all keyB = ((xs.take i).all keyB && keyB xs[i]) := by
  rw [List.take_succ_eq_append_getElem h, List.all_append]; simp
theorem shaped_spec (c : Cmd) (hn : c.keys.length ≤ 140737488355328) (H : Heap) : WC Try.prog 42 [c.av] H fun r H' => r = .bool (shapedB c) ∧ H' = H := by
  refine WC_val fun K hK => ?_
  refine WC_of_body hT Try.func42 rfl (by simp [Try.f42]) (by simp [Try.f42]) (wx_sound hT _ ?_)
  simp only [Try.f42]
  repeat' (first | simp only [go_sem, Nat.reduceLT, Nat.reduceEqDiff, Nat.reduceAdd, Nat.reduceMul, Nat.reduceSub, Nat.reduceLeDiff, Int.reduceToNat, Int.reduceNeg, Int.reduceLT, Int.reduceLE, Int.reduceEq, reduceCtorEq, Int.natCast_zero, Int.natCast_one, Int.cast_ofNat_Int, Bool.not_not, false_eq_decide, true_eq_decide, hread0, hreadk, read_cons0, read_consk, astore_h0, astore_hk, hget0, hgetk, hset0, hsetk, hlen, hcat, Nat.add_assoc, Nat.add_zero, Nat.zero_add, List.length_append, and_true, true_and, AV.flat, Cmd.av, *, -hK] | with_reducible refine IfB_dec (fun h => ?_) (fun h => ?_) | with_reducible refine Guard_dec (fun h => ?_) (fun h => ?_) | with_reducible refine Guard_ndec (fun h => ?_) (fun h => ?_) | with_reducible refine Guard_not (fun h => ?_) (fun h => ?_) | with_reducible refine IfB_ndec (fun h => ?_) (fun h => ?_) | with_reducible refine IfB_not (fun h => ?_) (fun h => ?_) | with_reducible refine Guard_split (fun h => ?_) (fun h => ?_) | with_reducible refine IfB_split (fun h => ?_) (fun h => ?_))
  refine WX_loopS [1, 6, 7] (fun k fr' H' => ∃ i : Nat, k = c.keys.length - i ∧ i ≤ c.keys.length ∧ fr'.get 8 = .int .i64 i ∧ (c.keys.take i).all keyB = true ∧ H' = H ++ [⟨c.cs, 0, .full⟩]) c.keys.length ⟨0, rfl, by omega, by simp only [go_sem, Nat.reduceLT, Nat.reduceEqDiff, Nat.reduceAdd, Nat.reduceMul, Nat.reduceSub, Nat.reduceLeDiff, Int.reduceToNat, Int.reduceNeg, Int.reduceLT, Int.reduceLE, Int.reduceEq, reduceCtorEq]; rfl, by simp, rfl⟩ ?_
  rintro k fr' H' A R hA hs hg hR ⟨i, rfl, hi, f8, hall, rfl⟩
  unfold Cmd.cs at hR ⊢
  have s1 := hg 1 (by decide)
  have s6 := hg 6 (by decide)
  have s7 := hg 7 (by decide)
  simp only [Fr.get_put, Fr.get_init, List.getD_cons_zero, List.getD_cons_succ, Nat.reduceEqDiff, if_true, if_false] at s1 s6 s7
  refine wx_sound hT _ ?_
  repeat' (first | simp only [go_sem, Nat.reduceLT, Nat.reduceEqDiff, Nat.reduceAdd, Nat.reduceMul, Nat.reduceSub, Nat.reduceLeDiff, Int.reduceToNat, Int.reduceNeg, Int.reduceLT, Int.reduceLE, Int.reduceEq, reduceCtorEq, Int.natCast_zero, Int.natCast_one, Int.cast_ofNat_Int, Bool.not_not, false_eq_decide, true_eq_decide, hread0, hreadk, read_cons0, read_consk, astore_h0, astore_hk, hget0, hgetk, hset0, hsetk, hlen, hcat, Nat.add_assoc, Nat.add_zero, Nat.zero_add, List.length_append, and_true, true_and, AV.flat, *, -hK, -hall] | with_reducible refine IfB_dec (fun h => ?_) (fun h => ?_) | with_reducible refine Guard_dec (fun h => ?_) (fun h => ?_) | with_reducible refine Guard_ndec (fun h => ?_) (fun h => ?_) | with_reducible refine Guard_not (fun h => ?_) (fun h => ?_) | with_reducible refine IfB_ndec (fun h => ?_) (fun h => ?_) | with_reducible refine IfB_not (fun h => ?_) (fun h => ?_) | with_reducible refine Guard_split (fun h => ?_) (fun h => ?_) | with_reducible refine IfB_split (fun h => ?_) (fun h => ?_))
  case refine_1 =>
    have hlt : i < c.keys.length := by omega
    have e1 := at_enc (E := Enc.str) (T := T) (k := .i64) se42 hlt rfl
    have e3 := inc_id hlt hn
    repeat' (first | simp only [go_sem, Nat.reduceLT, Nat.reduceEqDiff, Nat.reduceAdd, Nat.reduceMul, Nat.reduceSub, Nat.reduceLeDiff, Int.reduceToNat, Int.reduceNeg, Int.reduceLT, Int.reduceLE, Int.reduceEq, reduceCtorEq, Int.natCast_zero, Int.natCast_one, Int.cast_ofNat_Int, Bool.not_not, false_eq_decide, true_eq_decide, hread0, hreadk, read_cons0, read_consk, astore_h0, astore_hk, hget0, hgetk, hset0, hsetk, hlen, hcat, Nat.add_assoc, Nat.add_zero, Nat.zero_add, List.length_append, and_true, true_and, AV.flat, str_cells, *, -hK, -hall] | refine WC.call (keyed_spec _ _) ?_ | with_reducible refine IfB_dec (fun h => ?_) (fun h => ?_) | with_reducible refine Guard_dec (fun h => ?_) (fun h => ?_) | with_reducible refine Guard_ndec (fun h => ?_) (fun h => ?_) | with_reducible refine Guard_not (fun h => ?_) (fun h => ?_) | with_reducible refine IfB_ndec (fun h => ?_) (fun h => ?_) | with_reducible refine IfB_not (fun h => ?_) (fun h => ?_) | with_reducible refine Guard_split (fun h => ?_) (fun h => ?_) | with_reducible refine IfB_split (fun h => ?_) (fun h => ?_))
    case refine_1 =>
      refine hK _ _ (Thaw.of_eq ?_ rfl) (Keep.app _ _ _)
      have : c.keys.all keyB = false := by rw [List.all_eq_false]; exact ⟨_, List.getElem_mem hlt, by simp [h]⟩
      simp [shapedB, this]
    case refine_2 =>
      exact hR _ _ (by (repeat (first | exact hs | refine hA _ _ _ (by decide) ?_))) (c.keys.length - (i + 1)) (by omega) ⟨i + 1, rfl, by omega, by simp only [go_sem, Nat.reduceLT, Nat.reduceEqDiff, Nat.reduceAdd, Nat.reduceMul, Nat.reduceSub, Nat.reduceLeDiff, Int.reduceToNat, Int.reduceNeg, Int.reduceLT, Int.reduceLE, Int.reduceEq, reduceCtorEq], by rw [all_step hlt, hall, h]; rfl, rfl⟩
  all_goals
    have hin : i = c.keys.length := by omega
    rw [hin, List.take_length] at hall
    clear hR hA hs hg A R
    repeat' (first | simp only [go_sem, Nat.reduceLT, Nat.reduceEqDiff, Nat.reduceAdd, Nat.reduceMul, Nat.reduceSub, Nat.reduceLeDiff, Int.reduceToNat, Int.reduceNeg, Int.reduceLT, Int.reduceLE, Int.reduceEq, reduceCtorEq, Int.natCast_zero, Int.natCast_one, Int.cast_ofNat_Int, Bool.not_not, false_eq_decide, true_eq_decide, hread0, hreadk, read_cons0, read_consk, astore_h0, astore_hk, hget0, hgetk, hset0, hsetk, hlen, hcat, Nat.add_assoc, Nat.add_zero, Nat.zero_add, List.length_append, and_true, true_and, AV.flat, *, -hK, -hall, -hin] | refine WC.call (tenanted_spec _ _) ?_ | refine WC.call (in_spec _ _ _) ?_ | with_reducible refine IfB_dec (fun h => ?_) (fun h => ?_) | with_reducible refine Guard_dec (fun h => ?_) (fun h => ?_) | with_reducible refine Guard_ndec (fun h => ?_) (fun h => ?_) | with_reducible refine Guard_not (fun h => ?_) (fun h => ?_) | with_reducible refine IfB_ndec (fun h => ?_) (fun h => ?_) | with_reducible refine IfB_not (fun h => ?_) (fun h => ?_) | with_reducible refine Guard_split (fun h => ?_) (fun h => ?_) | with_reducible refine IfB_split (fun h => ?_) (fun h => ?_))
    all_goals
      refine hK _ _ (Thaw.of_eq ?_ rfl) (Keep.app _ _ _)
      simp only [shapedB, hall, Bool.true_and]
      congr 1
      first
        | (rw [decide_eq_decide]; omega)
        | (symm; rw [decide_eq_false_iff_not]; omega)
theorem refShaped_spec (c : Cmd) (hn : c.keys.length ≤ 140737488355328) (H : Heap) : WC Try.prog 45 [c.av] H fun r H' => r = .bool (shapedB c) ∧ H' = H := by
  refine WC_val fun K hK => ?_
  by_cases hg0 : 1 ≤ c.kind ∧ c.kind ≤ 11 ∧ 0 ≤ c.ten ∧ c.ten < 4 ∧ c.keys.length ≤ 8 ∧ c.val.length ≤ 512 ∧ 0 ≤ c.for_ ∧ c.for_ ≤ 1099511627776
  rotate_left
  · have hsh : shapedB c = false := by simp [shapedB, decide_eq_false hg0]
    rw [hsh] at hK
    refine WC_of_body hT Try.func45 rfl (by simp [Try.f45]) (by simp [Try.f45]) (wx_sound hT _ ?_)
    simp only [Try.f45]
    repeat' (first | simp only [go_sem, Nat.reduceLT, Nat.reduceEqDiff, Nat.reduceAdd, Nat.reduceMul, Nat.reduceSub, Nat.reduceLeDiff, Int.reduceToNat, Int.reduceNeg, Int.reduceLT, Int.reduceLE, Int.reduceEq, reduceCtorEq, Int.natCast_zero, Int.natCast_one, Int.cast_ofNat_Int, Bool.not_not, false_eq_decide, true_eq_decide, hread0, hreadk, read_cons0, read_consk, astore_h0, astore_hk, hget0, hgetk, hset0, hsetk, hlen, hcat, Nat.add_assoc, Nat.add_zero, Nat.zero_add, List.length_append, and_true, true_and, AV.flat, Cmd.av, *, -hK, -hg0, -hsh] | refine WC.call (refTenant_spec _ _) ?_ | with_reducible refine IfB_dec (fun h => ?_) (fun h => ?_) | with_reducible refine Guard_dec (fun h => ?_) (fun h => ?_) | with_reducible refine Guard_ndec (fun h => ?_) (fun h => ?_) | with_reducible refine Guard_not (fun h => ?_) (fun h => ?_) | with_reducible refine IfB_ndec (fun h => ?_) (fun h => ?_) | with_reducible refine IfB_not (fun h => ?_) (fun h => ?_) | with_reducible refine Guard_split (fun h => ?_) (fun h => ?_) | with_reducible refine IfB_split (fun h => ?_) (fun h => ?_))
    all_goals first | exact hK _ _ (.bool _) (Keep.app _ _ _) | (exfalso; omega)
  obtain ⟨g1, g2, g3, g4, g5, g6, g7, g8⟩ := hg0
  have g5' : ¬ (8 : Int) < c.keys.length := by omega
  have g6' : ¬ (512 : Int) < c.val.length := by omega
  have g1' : ¬ c.kind < 1 := by omega
  have g2' : ¬ 11 < c.kind := by omega
  have g7' : ¬ c.for_ < 0 := by omega
  have g8' : ¬ 1099511627776 < c.for_ := by omega
  have gt : decide (0 ≤ c.ten ∧ c.ten < 4) = true := by simp; omega
  have ts := fun J => refTenant_spec c.ten J
  rw [gt] at ts
  refine WC_of_body hT Try.func45 rfl (by simp [Try.f45]) (by simp [Try.f45]) (wx_sound hT _ ?_)
  simp only [Try.f45]
  repeat' (first | simp only [go_sem, Nat.reduceLT, Nat.reduceEqDiff, Nat.reduceAdd, Nat.reduceMul, Nat.reduceSub, Nat.reduceLeDiff, Int.reduceToNat, Int.reduceNeg, Int.reduceLT, Int.reduceLE, Int.reduceEq, reduceCtorEq, Int.natCast_zero, Int.natCast_one, Int.cast_ofNat_Int, Bool.not_not, false_eq_decide, true_eq_decide, hread0, hreadk, read_cons0, read_consk, astore_h0, astore_hk, hget0, hgetk, hset0, hsetk, hlen, hcat, Nat.add_assoc, Nat.add_zero, Nat.zero_add, List.length_append, and_true, true_and, AV.flat, Cmd.av, *, -hK, -ts, -gt] | refine WC.call (ts _) ?_ | with_reducible refine IfB_dec (fun h => ?_) (fun h => ?_) | with_reducible refine Guard_dec (fun h => ?_) (fun h => ?_) | with_reducible refine Guard_ndec (fun h => ?_) (fun h => ?_) | with_reducible refine Guard_not (fun h => ?_) (fun h => ?_) | with_reducible refine IfB_ndec (fun h => ?_) (fun h => ?_) | with_reducible refine IfB_not (fun h => ?_) (fun h => ?_) | with_reducible refine Guard_split (fun h => ?_) (fun h => ?_) | with_reducible refine IfB_split (fun h => ?_) (fun h => ?_))
  refine WX_loopS [1] (fun k fr' H' => ∃ i : Nat, k = c.keys.length - i ∧ i ≤ c.keys.length ∧ fr'.get 3 = .int .i64 i ∧ (c.keys.take i).all keyB = true ∧ H' = H ++ [⟨c.cs, 0, .full⟩]) c.keys.length ⟨0, rfl, by omega, by simp only [go_sem, Nat.reduceLT, Nat.reduceEqDiff, Nat.reduceAdd, Nat.reduceMul, Nat.reduceSub, Nat.reduceLeDiff, Int.reduceToNat, Int.reduceNeg, Int.reduceLT, Int.reduceLE, Int.reduceEq, reduceCtorEq]; rfl, by simp, rfl⟩ ?_
  rintro k fr' H' A R hA hs hg hR ⟨i, rfl, hi, f3, hall, rfl⟩
  unfold Cmd.cs at hR ⊢
  have s1 := hg 1 (by decide)
  simp only [Fr.get_put, Fr.get_init, List.getD_cons_zero, List.getD_cons_succ, Nat.reduceEqDiff, if_true, if_false] at s1
  refine wx_sound hT _ ?_
  repeat' (first | simp only [go_sem, Nat.reduceLT, Nat.reduceEqDiff, Nat.reduceAdd, Nat.reduceMul, Nat.reduceSub, Nat.reduceLeDiff, Int.reduceToNat, Int.reduceNeg, Int.reduceLT, Int.reduceLE, Int.reduceEq, reduceCtorEq, Int.natCast_zero, Int.natCast_one, Int.cast_ofNat_Int, Bool.not_not, false_eq_decide, true_eq_decide, hread0, hreadk, read_cons0, read_consk, astore_h0, astore_hk, hget0, hgetk, hset0, hsetk, hlen, hcat, Nat.add_assoc, Nat.add_zero, Nat.zero_add, List.length_append, and_true, true_and, AV.flat, *, -hK, -hall, -ts, -gt] | with_reducible refine IfB_dec (fun h => ?_) (fun h => ?_) | with_reducible refine Guard_dec (fun h => ?_) (fun h => ?_) | with_reducible refine Guard_ndec (fun h => ?_) (fun h => ?_) | with_reducible refine Guard_not (fun h => ?_) (fun h => ?_) | with_reducible refine IfB_ndec (fun h => ?_) (fun h => ?_) | with_reducible refine IfB_not (fun h => ?_) (fun h => ?_) | with_reducible refine Guard_split (fun h => ?_) (fun h => ?_) | with_reducible refine IfB_split (fun h => ?_) (fun h => ?_))
  case refine_1 =>
    have hlt : i < c.keys.length := by omega
    have e1 := at_enc (E := Enc.str) (T := T) (k := .i64) se42 hlt rfl
    have e3 := inc_id hlt hn
    repeat' (first | simp only [go_sem, Nat.reduceLT, Nat.reduceEqDiff, Nat.reduceAdd, Nat.reduceMul, Nat.reduceSub, Nat.reduceLeDiff, Int.reduceToNat, Int.reduceNeg, Int.reduceLT, Int.reduceLE, Int.reduceEq, reduceCtorEq, Int.natCast_zero, Int.natCast_one, Int.cast_ofNat_Int, Bool.not_not, false_eq_decide, true_eq_decide, hread0, hreadk, read_cons0, read_consk, astore_h0, astore_hk, hget0, hgetk, hset0, hsetk, hlen, hcat, Nat.add_assoc, Nat.add_zero, Nat.zero_add, List.length_append, and_true, true_and, AV.flat, str_cells, *, -hK, -hall, -ts, -gt] | refine WC.call (refKey_spec _ _) ?_ | with_reducible refine IfB_dec (fun h => ?_) (fun h => ?_) | with_reducible refine Guard_dec (fun h => ?_) (fun h => ?_) | with_reducible refine Guard_ndec (fun h => ?_) (fun h => ?_) | with_reducible refine Guard_not (fun h => ?_) (fun h => ?_) | with_reducible refine IfB_ndec (fun h => ?_) (fun h => ?_) | with_reducible refine IfB_not (fun h => ?_) (fun h => ?_) | with_reducible refine Guard_split (fun h => ?_) (fun h => ?_) | with_reducible refine IfB_split (fun h => ?_) (fun h => ?_))
    case refine_1 =>
      refine hK _ _ (Thaw.of_eq ?_ rfl) (Keep.app _ _ _)
      have : c.keys.all keyB = false := by rw [List.all_eq_false]; exact ⟨_, List.getElem_mem hlt, by simp [h]⟩
      simp [shapedB, this]
    case refine_2 =>
      exact hR _ _ (by (repeat (first | exact hs | refine hA _ _ _ (by decide) ?_))) (c.keys.length - (i + 1)) (by omega) ⟨i + 1, rfl, by omega, by simp only [go_sem, Nat.reduceLT, Nat.reduceEqDiff, Nat.reduceAdd, Nat.reduceMul, Nat.reduceSub, Nat.reduceLeDiff, Int.reduceToNat, Int.reduceNeg, Int.reduceLT, Int.reduceLE, Int.reduceEq, reduceCtorEq], by rw [all_step hlt, hall, h]; rfl, rfl⟩
  case refine_2 =>
    have hin : i = c.keys.length := by omega
    rw [hin, List.take_length] at hall
    repeat' (first | simp only [go_sem, Nat.reduceLT, Nat.reduceEqDiff, Nat.reduceAdd, Nat.reduceMul, Nat.reduceSub, Nat.reduceLeDiff, Int.reduceToNat, Int.reduceNeg, Int.reduceLT, Int.reduceLE, Int.reduceEq, reduceCtorEq, Int.natCast_zero, Int.natCast_one, Int.cast_ofNat_Int, Bool.not_not, false_eq_decide, true_eq_decide, hread0, hreadk, read_cons0, read_consk, astore_h0, astore_hk, hget0, hgetk, hset0, hsetk, hlen, hcat, Nat.add_assoc, Nat.add_zero, Nat.zero_add, List.length_append, and_true, true_and, AV.flat, *, -hK, -hall, -hin, -ts, -gt] | with_reducible refine IfB_dec (fun h => ?_) (fun h => ?_) | with_reducible refine Guard_dec (fun h => ?_) (fun h => ?_) | with_reducible refine Guard_ndec (fun h => ?_) (fun h => ?_) | with_reducible refine Guard_not (fun h => ?_) (fun h => ?_) | with_reducible refine IfB_ndec (fun h => ?_) (fun h => ?_) | with_reducible refine IfB_not (fun h => ?_) (fun h => ?_) | with_reducible refine Guard_split (fun h => ?_) (fun h => ?_) | with_reducible refine IfB_split (fun h => ?_) (fun h => ?_))
    refine hK _ _ (Thaw.of_eq ?_ rfl) (Keep.app _ _ _)
    simp only [shapedB, hall, Bool.true_and]
    congr 1
    symm; rw [decide_eq_true_eq]; omega
end Go.Proofs.Ytakmlfbejbelaaa
