import Derived.Test.YtkmkhiipiflelaaTicketTd
import Derived.Test.YtkmkhiipiflelaaPiSem
import Derived.Test.YtkmkhiipiflelaaPiV
import Derived.Test.YtkmkhiipiflelaaPiYa
import Derived.Test.YtkmkhiipiflelaaPiW
set_option linter.unusedSimpArgs false
set_option linter.unusedVariables false
set_option maxRecDepth 100000
set_option maxHeartbeats 2000000
namespace Go.Proofs.Ytkmkhiipiflelaa
open Go Go.Proofs Go.Proofs.PI
theorem i64_id (x : Int) (h0 : -9223372036854775808 ≤ x) (h1 : x < 9223372036854775808) : IntKind.i64.wrap x = x := by
  rw [IntKind.wrap_i64]; omega
theorem inc_id {i n : Nat} (h : i < n) (hn : n ≤ 140737488355328) : IntKind.i64.wrap ((i : Int) + 1) = ((i + 1 : Nat) : Int) := by
  rw [IntKind.wrap_i64]; omega
/-! ### who may be -/
theorem tenanted_spec (n : Int) (H : Heap) : WC Try.prog 71 [.int .i64 n] H fun r H' => r = .bool (decide (0 ≤ n ∧ n < 4)) ∧ H' = H := by
  refine WC_of_K fun K hK => ?_
  refine WC_of_body hT Try.func71 rfl (by simp [Try.f71]) (by simp [Try.f71]) (wx_sound hT _ ?_)
  simp only [Try.f71]
  simp only [go_sem, Nat.reduceLT, Nat.reduceEqDiff, Nat.reduceAdd, Nat.reduceMul, Nat.reduceSub, Nat.reduceLeDiff, Int.reduceToNat, Int.reduceNeg, Int.reduceLT, Int.reduceLE, Int.reduceEq, reduceCtorEq]
  refine Guard_split (fun h => ?_) (fun h => ?_)
  · simp only [go_sem, Nat.reduceLT, Nat.reduceEqDiff, Nat.reduceAdd, Nat.reduceMul, Nat.reduceSub, Nat.reduceLeDiff, Int.reduceToNat, Int.reduceNeg, Int.reduceLT, Int.reduceLE, Int.reduceEq, reduceCtorEq, h]
    refine hK _ _ ⟨?_, rfl⟩
    simp at h; simp [h]
  · simp only [go_sem, Nat.reduceLT, Nat.reduceEqDiff, Nat.reduceAdd, Nat.reduceMul, Nat.reduceSub, Nat.reduceLeDiff, Int.reduceToNat, Int.reduceNeg, Int.reduceLT, Int.reduceLE, Int.reduceEq, reduceCtorEq, h]
    refine hK _ _ ⟨?_, rfl⟩
    simp at h; simp; omega
theorem refTenant_spec (n : Int) (H : Heap) : WC Try.prog 77 [.int .i64 n] H fun r H' => r = .bool (decide (0 ≤ n ∧ n < 4)) ∧ H' = H := by
  refine WC_of_K fun K hK => ?_
  refine WC_of_body hT Try.func77 rfl (by simp [Try.f77]) (by simp [Try.f77]) (wx_sound hT _ ?_)
  simp only [Try.f77]
  simp only [go_sem, Nat.reduceLT, Nat.reduceEqDiff, Nat.reduceAdd, Nat.reduceMul, Nat.reduceSub, Nat.reduceLeDiff, Int.reduceToNat, Int.reduceNeg, Int.reduceLT, Int.reduceLE, Int.reduceEq, reduceCtorEq]
  refine Guard_split (fun h => ?_) (fun h => ?_)
  · simp only [go_sem, Nat.reduceLT, Nat.reduceEqDiff, Nat.reduceAdd, Nat.reduceMul, Nat.reduceSub, Nat.reduceLeDiff, Int.reduceToNat, Int.reduceNeg, Int.reduceLT, Int.reduceLE, Int.reduceEq, reduceCtorEq, h]
    refine hK _ _ ⟨?_, rfl⟩
    simp at h; simp [h]
  · simp only [go_sem, Nat.reduceLT, Nat.reduceEqDiff, Nat.reduceAdd, Nat.reduceMul, Nat.reduceSub, Nat.reduceLeDiff, Int.reduceToNat, Int.reduceNeg, Int.reduceLT, Int.reduceLE, Int.reduceEq, reduceCtorEq, h]
    refine hK _ _ ⟨?_, rfl⟩
    simp at h; simp; omega
def keyB (s : List UInt8) : Bool := decide (1 ≤ s.length ∧ s.length ≤ 32)
theorem keyed_spec (s : List UInt8) (H : Heap) : WC Try.prog 72 [.str s] H fun r H' => r = .bool (keyB s) ∧ H' = H := by
  refine WC_of_K fun K hK => ?_
  refine WC_of_body hT Try.func72 rfl (by simp [Try.f72]) (by simp [Try.f72]) (wx_sound hT _ ?_)
  simp only [Try.f72]
  simp only [go_sem, Nat.reduceLT, Nat.reduceEqDiff, Nat.reduceAdd, Nat.reduceMul, Nat.reduceSub, Nat.reduceLeDiff, Int.reduceToNat, Int.reduceNeg, Int.reduceLT, Int.reduceLE, Int.reduceEq, reduceCtorEq]
  refine Guard_split (fun h => ?_) (fun h => ?_)
  · simp only [go_sem, Nat.reduceLT, Nat.reduceEqDiff, Nat.reduceAdd, Nat.reduceMul, Nat.reduceSub, Nat.reduceLeDiff, Int.reduceToNat, Int.reduceNeg, Int.reduceLT, Int.reduceLE, Int.reduceEq, reduceCtorEq, h]
    refine hK _ _ ⟨?_, rfl⟩
    simp at h; have := List.length_pos_iff.2 h
    refine congrArg AV.bool ?_; rw [Bool.eq_iff_iff]; simp [keyB]; omega
  · simp only [go_sem, Nat.reduceLT, Nat.reduceEqDiff, Nat.reduceAdd, Nat.reduceMul, Nat.reduceSub, Nat.reduceLeDiff, Int.reduceToNat, Int.reduceNeg, Int.reduceLT, Int.reduceLE, Int.reduceEq, reduceCtorEq, h]
    refine hK _ _ ⟨?_, rfl⟩
    simp at h; subst h; simp [keyB]
theorem refKey_spec (s : List UInt8) (H : Heap) : WC Try.prog 78 [.str s] H fun r H' => r = .bool (keyB s) ∧ H' = H := by
  refine WC_of_K fun K hK => ?_
  refine WC_of_body hT Try.func78 rfl (by simp [Try.f78]) (by simp [Try.f78]) (wx_sound hT _ ?_)
  simp only [Try.f78]
  simp only [go_sem, Nat.reduceLT, Nat.reduceEqDiff, Nat.reduceAdd, Nat.reduceMul, Nat.reduceSub, Nat.reduceLeDiff, Int.reduceToNat, Int.reduceNeg, Int.reduceLT, Int.reduceLE, Int.reduceEq, reduceCtorEq]
  refine Guard_split (fun h => ?_) (fun h => ?_)
  · simp only [go_sem, Nat.reduceLT, Nat.reduceEqDiff, Nat.reduceAdd, Nat.reduceMul, Nat.reduceSub, Nat.reduceLeDiff, Int.reduceToNat, Int.reduceNeg, Int.reduceLT, Int.reduceLE, Int.reduceEq, reduceCtorEq, h]
    refine hK _ _ ⟨?_, rfl⟩
    simp at h
    refine congrArg AV.bool ?_; rw [Bool.eq_iff_iff]; simp [keyB]; omega
  · simp only [go_sem, Nat.reduceLT, Nat.reduceEqDiff, Nat.reduceAdd, Nat.reduceMul, Nat.reduceSub, Nat.reduceLeDiff, Int.reduceToNat, Int.reduceNeg, Int.reduceLT, Int.reduceLE, Int.reduceEq, reduceCtorEq, h]
    refine hK _ _ ⟨?_, rfl⟩
    simp at h
    refine congrArg AV.bool ?_; rw [Bool.eq_iff_iff]; simp [keyB]; omega

/-! ### the hash -/
def hstep (h : Int) (b : UInt8) : Int := IntKind.u64.wrap (IntKind.u64.wrap (BitVec.ofInt IntKind.u64.bits h ^^^ BitVec.ofInt IntKind.u64.bits (IntKind.u64.wrap b.toNat)).toNat * 1099511628211)
def hash (s : List UInt8) : Int := s.foldl hstep 14695981039346656037
theorem hash_snoc (s : List UInt8) (i : Nat) (h : i < s.length) : hash (s.take (i + 1)) = hstep (hash (s.take i)) s[i] := by
  rw [hash, List.take_succ_eq_append_getElem h, List.foldl_append]; rfl
theorem hash_spec (s : List UInt8) (hs : s.length ≤ 140737488355328) (H : Heap) : WC Try.prog 73 [.str s] H fun r H' => r = .int .u64 (hash s) ∧ Keep none H H' := by
  refine WC_of_K fun K hK => ?_
  refine WC_of_body hT Try.func73 rfl (by simp [Try.f73]) (by simp [Try.f73]) (wx_sound hT _ ?_)
  simp only [Try.f73]
  simp only [go_sem, Nat.reduceLT, Nat.reduceEqDiff, Nat.reduceAdd, Nat.reduceMul, Nat.reduceSub, Nat.reduceLeDiff, Int.reduceToNat, Int.reduceNeg, Int.reduceLT, Int.reduceLE, Int.reduceEq, reduceCtorEq]
  rw [if_pos hs]
  simp only [go_sem, Nat.reduceLT, Nat.reduceEqDiff, Nat.reduceAdd, Nat.reduceMul, Nat.reduceSub, Nat.reduceLeDiff, Int.reduceToNat, Int.reduceNeg, Int.reduceLT, Int.reduceLE, Int.reduceEq, reduceCtorEq]
  refine WX_loop (fun m fr' H' => ∃ i : Nat, m = s.length - i ∧ i ≤ s.length ∧ fr'.get 7 = .sl H.length 0 s.length none ∧ fr'.get 8 = .int .i64 s.length ∧ fr'.get 9 = .int .i64 i ∧ fr'.get 3 = .int .u64 (hash (s.take i)) ∧ H' = H ++ [⟨s.map fun b => .int .u8 b.toNat, 1, .opn⟩]) s.length ⟨0, rfl, Nat.zero_le _, ?_, ?_, ?_, ?_, rfl⟩ ?_
  · simp only [go_sem, Nat.reduceLT, Nat.reduceEqDiff, Nat.reduceAdd, Nat.reduceMul, Nat.reduceSub, Nat.reduceLeDiff, Int.reduceToNat, Int.reduceNeg, Int.reduceLT, Int.reduceLE, Int.reduceEq, reduceCtorEq]
  · simp only [go_sem, Nat.reduceLT, Nat.reduceEqDiff, Nat.reduceAdd, Nat.reduceMul, Nat.reduceSub, Nat.reduceLeDiff, Int.reduceToNat, Int.reduceNeg, Int.reduceLT, Int.reduceLE, Int.reduceEq, reduceCtorEq]
  · simp only [go_sem, Nat.reduceLT, Nat.reduceEqDiff, Nat.reduceAdd, Nat.reduceMul, Nat.reduceSub, Nat.reduceLeDiff, Int.reduceToNat, Int.reduceNeg, Int.reduceLT, Int.reduceLE, Int.reduceEq, reduceCtorEq]
    rfl
  · simp only [go_sem, Nat.reduceLT, Nat.reduceEqDiff, Nat.reduceAdd, Nat.reduceMul, Nat.reduceSub, Nat.reduceLeDiff, Int.reduceToNat, Int.reduceNeg, Int.reduceLT, Int.reduceLE, Int.reduceEq, reduceCtorEq]
    simp [hash]
  · rintro m fr' H' ⟨i, rfl, hi, h7, h8, h9, h3, rfl⟩
    refine wx_sound hT _ ?_
    simp only [go_sem, Nat.reduceLT, Nat.reduceEqDiff, Nat.reduceAdd, Nat.reduceMul, Nat.reduceSub, Nat.reduceLeDiff, Int.reduceToNat, Int.reduceNeg, Int.reduceLT, Int.reduceLE, Int.reduceEq, reduceCtorEq, h7, h8, h9, h3]
    refine IfB_dec (fun hlt => ?_) (fun hge => ?_)
    · have hlt' : i < s.length := by omega
      simp only [go_sem, Nat.reduceLT, Nat.reduceEqDiff, Nat.reduceAdd, Nat.reduceMul, Nat.reduceSub, Nat.reduceLeDiff, Int.reduceToNat, Int.reduceNeg, Int.reduceLT, Int.reduceLE, Int.reduceEq, reduceCtorEq, h7, h8, h9, h3, if_pos (show (0 : Int) ≤ i ∧ (i : Int) < s.length from ⟨by omega, hlt⟩), Int.toNat_natCast, Nat.mul_one, Nat.zero_add]
      rw [read_at (B := ⟨s.map fun b => .int .u8 b.toNat, 1, .opn⟩) (a := .int .u8 s[i].toNat) (by simp) rfl (by simp [hlt'])]
      simp only [go_sem, Nat.reduceLT, Nat.reduceEqDiff, Nat.reduceAdd, Nat.reduceMul, Nat.reduceSub, Nat.reduceLeDiff, Int.reduceToNat, Int.reduceNeg, Int.reduceLT, Int.reduceLE, Int.reduceEq, reduceCtorEq, h7, h8, h9, h3, i64_id (i + 1 : Int) (by omega) (by omega)]
      refine ⟨s.length - (i + 1), by omega, i + 1, rfl, by omega, ?_, ?_, ?_, ?_, rfl⟩
      · simp only [go_sem, Nat.reduceLT, Nat.reduceEqDiff, Nat.reduceAdd, Nat.reduceMul, Nat.reduceSub, Nat.reduceLeDiff, Int.reduceToNat, Int.reduceNeg, Int.reduceLT, Int.reduceLE, Int.reduceEq, reduceCtorEq, h7]
      · simp only [go_sem, Nat.reduceLT, Nat.reduceEqDiff, Nat.reduceAdd, Nat.reduceMul, Nat.reduceSub, Nat.reduceLeDiff, Int.reduceToNat, Int.reduceNeg, Int.reduceLT, Int.reduceLE, Int.reduceEq, reduceCtorEq, h8]
      · simp only [go_sem, Nat.reduceLT, Nat.reduceEqDiff, Nat.reduceAdd, Nat.reduceMul, Nat.reduceSub, Nat.reduceLeDiff, Int.reduceToNat, Int.reduceNeg, Int.reduceLT, Int.reduceLE, Int.reduceEq, reduceCtorEq]
        rfl
      · simp only [go_sem, Nat.reduceLT, Nat.reduceEqDiff, Nat.reduceAdd, Nat.reduceMul, Nat.reduceSub, Nat.reduceLeDiff, Int.reduceToNat, Int.reduceNeg, Int.reduceLT, Int.reduceLE, Int.reduceEq, reduceCtorEq]
        rw [hash_snoc s i hlt']; rfl
    · have : i = s.length := by omega
      subst this
      simp only [go_sem, Nat.reduceLT, Nat.reduceEqDiff, Nat.reduceAdd, Nat.reduceMul, Nat.reduceSub, Nat.reduceLeDiff, Int.reduceToNat, Int.reduceNeg, Int.reduceLT, Int.reduceLE, Int.reduceEq, reduceCtorEq, h3]
      refine hK _ _ ⟨?_, Keep.snoc _ _ _⟩
      rw [List.take_length]
theorem refHash_spec (s : List UInt8) (hs : s.length ≤ 140737488355328) (H : Heap) : WC Try.prog 79 [.str s] H fun r H' => r = .int .u64 (hash s) ∧ Keep none H H' := by
  refine WC_of_K fun K hK => ?_
  refine WC_of_body hT Try.func79 rfl (by simp [Try.f79]) (by simp [Try.f79]) (wx_sound hT _ ?_)
  simp only [Try.f79]
  simp only [go_sem, Nat.reduceLT, Nat.reduceEqDiff, Nat.reduceAdd, Nat.reduceMul, Nat.reduceSub, Nat.reduceLeDiff, Int.reduceToNat, Int.reduceNeg, Int.reduceLT, Int.reduceLE, Int.reduceEq, reduceCtorEq]
  refine WX_loop (fun m fr' H' => ∃ i : Nat, m = s.length - i ∧ i ≤ s.length ∧ fr'.get 0 = .str s ∧ fr'.get 4 = .int .i64 i ∧ fr'.get 3 = .int .u64 (hash (s.take i)) ∧ H' = H) s.length ⟨0, rfl, Nat.zero_le _, ?_, ?_, ?_, rfl⟩ ?_
  · simp only [go_sem, Nat.reduceLT, Nat.reduceEqDiff, Nat.reduceAdd, Nat.reduceMul, Nat.reduceSub, Nat.reduceLeDiff, Int.reduceToNat, Int.reduceNeg, Int.reduceLT, Int.reduceLE, Int.reduceEq, reduceCtorEq]
  · simp only [go_sem, Nat.reduceLT, Nat.reduceEqDiff, Nat.reduceAdd, Nat.reduceMul, Nat.reduceSub, Nat.reduceLeDiff, Int.reduceToNat, Int.reduceNeg, Int.reduceLT, Int.reduceLE, Int.reduceEq, reduceCtorEq]
    rfl
  · simp only [go_sem, Nat.reduceLT, Nat.reduceEqDiff, Nat.reduceAdd, Nat.reduceMul, Nat.reduceSub, Nat.reduceLeDiff, Int.reduceToNat, Int.reduceNeg, Int.reduceLT, Int.reduceLE, Int.reduceEq, reduceCtorEq]
    simp [hash]
  · rintro m fr' H' ⟨i, rfl, hi, h0, h4, h3, rfl⟩
    refine wx_sound hT _ ?_
    simp only [go_sem, Nat.reduceLT, Nat.reduceEqDiff, Nat.reduceAdd, Nat.reduceMul, Nat.reduceSub, Nat.reduceLeDiff, Int.reduceToNat, Int.reduceNeg, Int.reduceLT, Int.reduceLE, Int.reduceEq, reduceCtorEq, h0, h4, h3]
    refine IfB_dec (fun hlt => ?_) (fun hge => ?_)
    · have hlt' : i < s.length := by omega
      simp only [go_sem, Nat.reduceLT, Nat.reduceEqDiff, Nat.reduceAdd, Nat.reduceMul, Nat.reduceSub, Nat.reduceLeDiff, Int.reduceToNat, Int.reduceNeg, Int.reduceLT, Int.reduceLE, Int.reduceEq, reduceCtorEq, h0, h4, h3, if_pos (show (0 : Int) ≤ i by omega), Int.toNat_natCast, List.getElem?_eq_getElem hlt', i64_id (i + 1 : Int) (by omega) (by omega)]
      refine ⟨s.length - (i + 1), by omega, i + 1, rfl, by omega, ?_, ?_, ?_, rfl⟩
      · simp only [go_sem, Nat.reduceLT, Nat.reduceEqDiff, Nat.reduceAdd, Nat.reduceMul, Nat.reduceSub, Nat.reduceLeDiff, Int.reduceToNat, Int.reduceNeg, Int.reduceLT, Int.reduceLE, Int.reduceEq, reduceCtorEq, h0]
      · simp only [go_sem, Nat.reduceLT, Nat.reduceEqDiff, Nat.reduceAdd, Nat.reduceMul, Nat.reduceSub, Nat.reduceLeDiff, Int.reduceToNat, Int.reduceNeg, Int.reduceLT, Int.reduceLE, Int.reduceEq, reduceCtorEq]
        rfl
      · simp only [go_sem, Nat.reduceLT, Nat.reduceEqDiff, Nat.reduceAdd, Nat.reduceMul, Nat.reduceSub, Nat.reduceLeDiff, Int.reduceToNat, Int.reduceNeg, Int.reduceLT, Int.reduceLE, Int.reduceEq, reduceCtorEq]
        rw [hash_snoc s i hlt']; rfl
    · have : i = s.length := by omega
      subst this
      simp only [go_sem, Nat.reduceLT, Nat.reduceEqDiff, Nat.reduceAdd, Nat.reduceMul, Nat.reduceSub, Nat.reduceLeDiff, Int.reduceToNat, Int.reduceNeg, Int.reduceLT, Int.reduceLE, Int.reduceEq, reduceCtorEq, h3]
      refine hK _ _ ⟨?_, Keep.refl _ _⟩
      rw [List.take_length]

/-! ### shards -/
/-- The byte that a tenant is. -/
def tbyte (n : Int) : UInt8 := UInt8.ofNat (IntKind.u8.wrap n).toNat
def shardL (t : Int) (k : List UInt8) (n : Int) : Int × Int :=
  if ¬ (0 ≤ t ∧ t < 4) then (0, 2) else if keyB k = false then (0, 3) else if n < 1 ∨ n > 4 then (0, 2) else
    (IntKind.i64.wrap ((hash (tbyte t :: k)).tmod (IntKind.u64.wrap n)), 0)
theorem shard_spec (t : Int) (k : List UInt8) (n : Int) (hk : k.length ≤ 100000) (H : Heap) :
    WC Try.prog 65 [.int .i64 t, .str k, .int .i64 n] H fun r H' => r = .tup [.int .i64 (shardL t k n).1, .int .i64 (shardL t k n).2] ∧ Keep none H H' := by
  refine WC_of_K fun K hK => ?_
  refine WC_of_body hT Try.func65 rfl (by simp [Try.f65]) (by simp [Try.f65]) (wx_sound hT _ ?_)
  simp only [Try.f65]
  simp only [go_sem, Nat.reduceLT, Nat.reduceEqDiff, Nat.reduceAdd, Nat.reduceMul, Nat.reduceSub, Nat.reduceLeDiff, Int.reduceToNat, Int.reduceNeg, Int.reduceLT, Int.reduceLE, Int.reduceEq, reduceCtorEq]
  refine (tenanted_spec _ _).mono ?_
  rintro r H' ⟨rfl, rfl⟩
  simp only [go_sem, Nat.reduceLT, Nat.reduceEqDiff, Nat.reduceAdd, Nat.reduceMul, Nat.reduceSub, Nat.reduceLeDiff, Int.reduceToNat, Int.reduceNeg, Int.reduceLT, Int.reduceLE, Int.reduceEq, reduceCtorEq]
  refine IfB_split (fun h => ?_) (fun h => ?_)
  · simp only [go_sem, Nat.reduceLT, Nat.reduceEqDiff, Nat.reduceAdd, Nat.reduceMul, Nat.reduceSub, Nat.reduceLeDiff, Int.reduceToNat, Int.reduceNeg, Int.reduceLT, Int.reduceLE, Int.reduceEq, reduceCtorEq]
    refine hK _ _ ⟨?_, Keep.refl _ _⟩
    simp at h
    rw [shardL, if_pos (by omega)]
  · simp only [go_sem, Nat.reduceLT, Nat.reduceEqDiff, Nat.reduceAdd, Nat.reduceMul, Nat.reduceSub, Nat.reduceLeDiff, Int.reduceToNat, Int.reduceNeg, Int.reduceLT, Int.reduceLE, Int.reduceEq, reduceCtorEq]
    refine (keyed_spec _ _).mono ?_
    rintro r H' ⟨rfl, rfl⟩
    simp only [go_sem, Nat.reduceLT, Nat.reduceEqDiff, Nat.reduceAdd, Nat.reduceMul, Nat.reduceSub, Nat.reduceLeDiff, Int.reduceToNat, Int.reduceNeg, Int.reduceLT, Int.reduceLE, Int.reduceEq, reduceCtorEq]
    refine IfB_split (fun h2 => ?_) (fun h2 => ?_)
    · simp only [go_sem, Nat.reduceLT, Nat.reduceEqDiff, Nat.reduceAdd, Nat.reduceMul, Nat.reduceSub, Nat.reduceLeDiff, Int.reduceToNat, Int.reduceNeg, Int.reduceLT, Int.reduceLE, Int.reduceEq, reduceCtorEq]
      refine hK _ _ ⟨?_, Keep.refl _ _⟩
      simp at h h2
      rw [shardL, if_neg (by omega), if_pos h2]
    · simp at h h2
      simp only [go_sem, Nat.reduceLT, Nat.reduceEqDiff, Nat.reduceAdd, Nat.reduceMul, Nat.reduceSub, Nat.reduceLeDiff, Int.reduceToNat, Int.reduceNeg, Int.reduceLT, Int.reduceLE, Int.reduceEq, reduceCtorEq]
      refine Guard_not (fun h3 => ?_) (fun h3 => ?_)
      · simp only [go_sem, Nat.reduceLT, Nat.reduceEqDiff, Nat.reduceAdd, Nat.reduceMul, Nat.reduceSub, Nat.reduceLeDiff, Int.reduceToNat, Int.reduceNeg, Int.reduceLT, Int.reduceLE, Int.reduceEq, reduceCtorEq, h3]
        simp at h3
        refine IfB_dec (fun h4 => ?_) (fun h4 => ?_)
        · simp only [go_sem, Nat.reduceLT, Nat.reduceEqDiff, Nat.reduceAdd, Nat.reduceMul, Nat.reduceSub, Nat.reduceLeDiff, Int.reduceToNat, Int.reduceNeg, Int.reduceLT, Int.reduceLE, Int.reduceEq, reduceCtorEq]
          refine hK _ _ ⟨?_, Keep.refl _ _⟩
          rw [shardL, if_neg (by omega), if_neg (by simp [h2]), if_pos (by omega)]
        · simp only [go_sem, Nat.reduceLT, Nat.reduceEqDiff, Nat.reduceAdd, Nat.reduceMul, Nat.reduceSub, Nat.reduceLeDiff, Int.reduceToNat, Int.reduceNeg, Int.reduceLT, Int.reduceLE, Int.reduceEq, reduceCtorEq]
          rw [if_pos (by omega)]
          simp only [go_sem, Nat.reduceLT, Nat.reduceEqDiff, Nat.reduceAdd, Nat.reduceMul, Nat.reduceSub, Nat.reduceLeDiff, Int.reduceToNat, Int.reduceNeg, Int.reduceLT, Int.reduceLE, Int.reduceEq, reduceCtorEq]
          refine (hash_spec _ (by simp; omega) _).mono ?_
          rintro r H' ⟨rfl, hk2⟩
          simp only [go_sem, Nat.reduceLT, Nat.reduceEqDiff, Nat.reduceAdd, Nat.reduceMul, Nat.reduceSub, Nat.reduceLeDiff, Int.reduceToNat, Int.reduceNeg, Int.reduceLT, Int.reduceLE, Int.reduceEq, reduceCtorEq]
          have hn : IntKind.u64.wrap n = n := by rw [IntKind.wrap_u64]; omega
          rw [hn]
          rw [if_pos (by omega)]
          simp only [go_sem, Nat.reduceLT, Nat.reduceEqDiff, Nat.reduceAdd, Nat.reduceMul, Nat.reduceSub, Nat.reduceLeDiff, Int.reduceToNat, Int.reduceNeg, Int.reduceLT, Int.reduceLE, Int.reduceEq, reduceCtorEq]
          refine hK _ _ ⟨?_, (Keep.snoc _ _ _).trans hk2⟩
          rw [shardL, if_neg (by omega), if_neg (by simp [h2]), if_neg (by omega), hn]; rfl
      · simp only [go_sem, Nat.reduceLT, Nat.reduceEqDiff, Nat.reduceAdd, Nat.reduceMul, Nat.reduceSub, Nat.reduceLeDiff, Int.reduceToNat, Int.reduceNeg, Int.reduceLT, Int.reduceLE, Int.reduceEq, reduceCtorEq, h3]
        simp at h3
        refine hK _ _ ⟨?_, Keep.refl _ _⟩
        rw [shardL, if_neg (by omega), if_neg (by simp [h2]), if_pos (by omega)]
theorem refShard_spec (t : Int) (k : List UInt8) (n : Int) (hk : k.length ≤ 100000) (H : Heap) :
    WC Try.prog 75 [.int .i64 t, .str k, .int .i64 n] H fun r H' => r = .tup [.int .i64 (shardL t k n).1, .int .i64 (shardL t k n).2] ∧ Keep none H H' := by
  refine WC_of_K fun K hK => ?_
  refine WC_of_body hT Try.func75 rfl (by simp [Try.f75]) (by simp [Try.f75]) (wx_sound hT _ ?_)
  simp only [Try.f75]
  simp only [go_sem, Nat.reduceLT, Nat.reduceEqDiff, Nat.reduceAdd, Nat.reduceMul, Nat.reduceSub, Nat.reduceLeDiff, Int.reduceToNat, Int.reduceNeg, Int.reduceLT, Int.reduceLE, Int.reduceEq, reduceCtorEq]
  refine (refTenant_spec _ _).mono ?_
  rintro r H' ⟨rfl, rfl⟩
  simp only [go_sem, Nat.reduceLT, Nat.reduceEqDiff, Nat.reduceAdd, Nat.reduceMul, Nat.reduceSub, Nat.reduceLeDiff, Int.reduceToNat, Int.reduceNeg, Int.reduceLT, Int.reduceLE, Int.reduceEq, reduceCtorEq]
  refine IfB_split (fun h => ?_) (fun h => ?_)
  · simp only [go_sem, Nat.reduceLT, Nat.reduceEqDiff, Nat.reduceAdd, Nat.reduceMul, Nat.reduceSub, Nat.reduceLeDiff, Int.reduceToNat, Int.reduceNeg, Int.reduceLT, Int.reduceLE, Int.reduceEq, reduceCtorEq]
    refine hK _ _ ⟨?_, Keep.refl _ _⟩
    simp at h
    rw [shardL, if_pos (by omega)]
  · simp only [go_sem, Nat.reduceLT, Nat.reduceEqDiff, Nat.reduceAdd, Nat.reduceMul, Nat.reduceSub, Nat.reduceLeDiff, Int.reduceToNat, Int.reduceNeg, Int.reduceLT, Int.reduceLE, Int.reduceEq, reduceCtorEq]
    refine (refKey_spec _ _).mono ?_
    rintro r H' ⟨rfl, rfl⟩
    simp only [go_sem, Nat.reduceLT, Nat.reduceEqDiff, Nat.reduceAdd, Nat.reduceMul, Nat.reduceSub, Nat.reduceLeDiff, Int.reduceToNat, Int.reduceNeg, Int.reduceLT, Int.reduceLE, Int.reduceEq, reduceCtorEq]
    refine IfB_split (fun h2 => ?_) (fun h2 => ?_)
    · simp only [go_sem, Nat.reduceLT, Nat.reduceEqDiff, Nat.reduceAdd, Nat.reduceMul, Nat.reduceSub, Nat.reduceLeDiff, Int.reduceToNat, Int.reduceNeg, Int.reduceLT, Int.reduceLE, Int.reduceEq, reduceCtorEq]
      refine hK _ _ ⟨?_, Keep.refl _ _⟩
      simp at h h2
      rw [shardL, if_neg (by omega), if_pos h2]
    · simp at h h2
      simp only [go_sem, Nat.reduceLT, Nat.reduceEqDiff, Nat.reduceAdd, Nat.reduceMul, Nat.reduceSub, Nat.reduceLeDiff, Int.reduceToNat, Int.reduceNeg, Int.reduceLT, Int.reduceLE, Int.reduceEq, reduceCtorEq]
      refine Guard_not (fun h3 => ?_) (fun h3 => ?_)
      · simp only [go_sem, Nat.reduceLT, Nat.reduceEqDiff, Nat.reduceAdd, Nat.reduceMul, Nat.reduceSub, Nat.reduceLeDiff, Int.reduceToNat, Int.reduceNeg, Int.reduceLT, Int.reduceLE, Int.reduceEq, reduceCtorEq, h3]
        simp at h3
        refine IfB_dec (fun h4 => ?_) (fun h4 => ?_)
        · simp only [go_sem, Nat.reduceLT, Nat.reduceEqDiff, Nat.reduceAdd, Nat.reduceMul, Nat.reduceSub, Nat.reduceLeDiff, Int.reduceToNat, Int.reduceNeg, Int.reduceLT, Int.reduceLE, Int.reduceEq, reduceCtorEq]
          refine hK _ _ ⟨?_, Keep.refl _ _⟩
          rw [shardL, if_neg (by omega), if_neg (by simp [h2]), if_pos (by omega)]
        · simp only [go_sem, Nat.reduceLT, Nat.reduceEqDiff, Nat.reduceAdd, Nat.reduceMul, Nat.reduceSub, Nat.reduceLeDiff, Int.reduceToNat, Int.reduceNeg, Int.reduceLT, Int.reduceLE, Int.reduceEq, reduceCtorEq]
          rw [if_pos (by omega)]
          simp only [go_sem, Nat.reduceLT, Nat.reduceEqDiff, Nat.reduceAdd, Nat.reduceMul, Nat.reduceSub, Nat.reduceLeDiff, Int.reduceToNat, Int.reduceNeg, Int.reduceLT, Int.reduceLE, Int.reduceEq, reduceCtorEq]
          refine (refHash_spec _ (by simp; omega) _).mono ?_
          rintro r H' ⟨rfl, hk2⟩
          simp only [go_sem, Nat.reduceLT, Nat.reduceEqDiff, Nat.reduceAdd, Nat.reduceMul, Nat.reduceSub, Nat.reduceLeDiff, Int.reduceToNat, Int.reduceNeg, Int.reduceLT, Int.reduceLE, Int.reduceEq, reduceCtorEq]
          have hn : IntKind.u64.wrap n = n := by rw [IntKind.wrap_u64]; omega
          rw [hn]
          rw [if_pos (by omega)]
          simp only [go_sem, Nat.reduceLT, Nat.reduceEqDiff, Nat.reduceAdd, Nat.reduceMul, Nat.reduceSub, Nat.reduceLeDiff, Int.reduceToNat, Int.reduceNeg, Int.reduceLT, Int.reduceLE, Int.reduceEq, reduceCtorEq]
          refine hK _ _ ⟨?_, (Keep.snoc _ _ _).trans hk2⟩
          rw [shardL, if_neg (by omega), if_neg (by simp [h2]), if_neg (by omega), hn]; rfl
      · simp only [go_sem, Nat.reduceLT, Nat.reduceEqDiff, Nat.reduceAdd, Nat.reduceMul, Nat.reduceSub, Nat.reduceLeDiff, Int.reduceToNat, Int.reduceNeg, Int.reduceLT, Int.reduceLE, Int.reduceEq, reduceCtorEq, h3]
        simp at h3
        refine hK _ _ ⟨?_, Keep.refl _ _⟩
        rw [shardL, if_neg (by omega), if_neg (by simp [h2]), if_pos (by omega)]
theorem shardP (t : Int) (k : List UInt8) (n : Int) (hk : k.length ≤ 100000) (H : Heap) : WC Try.prog 65 [.int .i64 t, .str k, .int .i64 n] H fun r H' => r = .tup [.int .i64 (shardL t k n).1, .int .i64 (shardL t k n).2] ∧ H' = H :=
  WC_froze (Q := fun r => r = _) ((shard_spec t k n hk H).mono fun r H' ⟨h1, h2⟩ => ⟨_, by rw [h1]; exact Thaw.tup_row ⟨.int _ _, .int _ _, trivial⟩, h2, rfl⟩)
theorem refShardP (t : Int) (k : List UInt8) (n : Int) (hk : k.length ≤ 100000) (H : Heap) : WC Try.prog 75 [.int .i64 t, .str k, .int .i64 n] H fun r H' => r = .tup [.int .i64 (shardL t k n).1, .int .i64 (shardL t k n).2] ∧ H' = H :=
  WC_froze (Q := fun r => r = _) ((refShard_spec t k n hk H).mono fun r H' ⟨h1, h2⟩ => ⟨_, by rw [h1]; exact Thaw.tup_row ⟨.int _ _, .int _ _, trivial⟩, h2, rfl⟩)
/-! ### commands -/
structure Cmd where
  kind : Int
  ten : Int
  keys : List (List UInt8)
  val : List UInt8
  flags : Int
  for_ : Int
  uniq : Int
  by_ : Int
def Cmd.av (c : Cmd) : AV := .agg [.int .u8 c.kind, .int .i64 c.ten, Enc.str.lst c.keys, .str c.val, .int .u32 c.flags, .int .i64 c.for_, .int .u64 c.uniq, .int .u64 c.by_]
def hasL (k : Int) : Int := if k = 1 ∨ k = 10 then 129 else if k = 2 ∨ k = 3 ∨ k = 4 then 142 else if k = 5 then 158 else if k = 6 ∨ k = 7 then 160 else if k = 8 then 130 else if k = 9 then 132 else if k = 11 then 192 else 0
theorem has_spec (k : Int) (H : Heap) : WC Try.prog 62 [.int .u8 k] H fun r H' => r = .int .i64 (hasL k) ∧ H' = H := by
  refine WC_val fun K hK => ?_
  refine WC_of_body hT Try.func62 rfl (by simp [Try.f62]) (by simp [Try.f62]) (wx_sound hT _ ?_)
  simp only [Try.f62]
  repeat' (first | simp only [go_sem, Nat.reduceLT, Nat.reduceEqDiff, Nat.reduceAdd, Nat.reduceMul, Nat.reduceSub, Nat.reduceLeDiff, Int.reduceToNat, Int.reduceNeg, Int.reduceLT, Int.reduceLE, Int.reduceEq, reduceCtorEq, Int.natCast_zero, Int.natCast_one, Int.cast_ofNat_Int, Bool.not_not, false_eq_decide, true_eq_decide, hread0, hreadk, read_cons0, read_consk, astore_h0, astore_hk, hget0, hgetk, hset0, hsetk, hlen, hcat, Nat.add_assoc, Nat.add_zero, Nat.zero_add, List.length_append, and_true, true_and, AV.flat, *, -hK] | with_reducible refine IfB_dec (fun h => ?_) (fun h => ?_) | with_reducible refine Guard_dec (fun h => ?_) (fun h => ?_) | with_reducible refine Guard_ndec (fun h => ?_) (fun h => ?_) | with_reducible refine Guard_not (fun h => ?_) (fun h => ?_) | with_reducible refine IfB_ndec (fun h => ?_) (fun h => ?_) | with_reducible refine IfB_not (fun h => ?_) (fun h => ?_) | with_reducible refine Guard_split (fun h => ?_) (fun h => ?_) | with_reducible refine IfB_split (fun h => ?_) (fun h => ?_))
  all_goals (refine hK _ _ (Thaw.of_eq ?_ rfl) (Keep.refl _ _); congr 1; unfold hasL; first | (subst_vars; rfl) | (simp [*, -hK]; done))
def idxI (o : Option Nat) : Int := match o with
  | some i => (i : Int)
  | none => -1
theorem strIdx_spec (xs : List (List UInt8)) (s : List UInt8) (hn : xs.length ≤ 140737488355328) (H : Heap) :
    WC Try.prog 76 [Enc.str.lst xs, .str s] H fun r H' => r = .int .i64 (idxI (xs.findIdx? fun x => decide (s = x))) ∧ H' = H := by
  refine WC_of_K fun K hK => ?_
  refine WC_of_body hT Try.func76 rfl (by simp [Try.f76]) (by simp [Try.f76]) (wx_sound hT _ ?_)
  simp only [Try.f76]
  repeat' (first | simp only [go_sem, Nat.reduceLT, Nat.reduceEqDiff, Nat.reduceAdd, Nat.reduceMul, Nat.reduceSub, Nat.reduceLeDiff, Int.reduceToNat, Int.reduceNeg, Int.reduceLT, Int.reduceLE, Int.reduceEq, reduceCtorEq, Int.natCast_zero, Int.natCast_one, Int.cast_ofNat_Int, Bool.not_not, false_eq_decide, true_eq_decide, hread0, hreadk, read_cons0, read_consk, astore_h0, astore_hk, hget0, hgetk, hset0, hsetk, hlen, hcat, Nat.add_assoc, Nat.add_zero, Nat.zero_add, List.length_append, and_true, true_and, AV.flat, *, -hK] | with_reducible refine IfB_dec (fun h => ?_) (fun h => ?_) | with_reducible refine Guard_dec (fun h => ?_) (fun h => ?_) | with_reducible refine Guard_ndec (fun h => ?_) (fun h => ?_) | with_reducible refine Guard_not (fun h => ?_) (fun h => ?_) | with_reducible refine IfB_ndec (fun h => ?_) (fun h => ?_) | with_reducible refine IfB_not (fun h => ?_) (fun h => ?_) | with_reducible refine Guard_split (fun h => ?_) (fun h => ?_) | with_reducible refine IfB_split (fun h => ?_) (fun h => ?_))
  refine WX_loopS [0, 1, 7] (fun k fr' H' => ∃ i : Nat, k = xs.length - i ∧ i ≤ xs.length ∧ fr'.get 8 = .int .i64 i ∧ H' = H ∧ ∀ j (hj : j < i) (hx : j < xs.length), ¬ s = xs[j]) xs.length ⟨0, rfl, by omega, by simp only [go_sem, Nat.reduceLT, Nat.reduceEqDiff, Nat.reduceAdd, Nat.reduceMul, Nat.reduceSub, Nat.reduceLeDiff, Int.reduceToNat, Int.reduceNeg, Int.reduceLT, Int.reduceLE, Int.reduceEq, reduceCtorEq]; rfl, rfl, fun j hj => by omega⟩ ?_
  rintro k fr' H' A R hA hs hg hR ⟨i, rfl, hi, f8, rfl, hno⟩
  have s0 := hg 0 (by decide)
  have s1 := hg 1 (by decide)
  have s7 := hg 7 (by decide)
  simp only [Fr.get_put, Fr.get_init, List.getD_cons_zero, List.getD_cons_succ, Nat.reduceEqDiff, if_true, if_false] at s0 s1 s7
  refine wx_sound hT _ ?_
  repeat' (first | simp only [go_sem, Nat.reduceLT, Nat.reduceEqDiff, Nat.reduceAdd, Nat.reduceMul, Nat.reduceSub, Nat.reduceLeDiff, Int.reduceToNat, Int.reduceNeg, Int.reduceLT, Int.reduceLE, Int.reduceEq, reduceCtorEq, Int.natCast_zero, Int.natCast_one, Int.cast_ofNat_Int, Bool.not_not, false_eq_decide, true_eq_decide, hread0, hreadk, read_cons0, read_consk, astore_h0, astore_hk, hget0, hgetk, hset0, hsetk, hlen, hcat, Nat.add_assoc, Nat.add_zero, Nat.zero_add, List.length_append, and_true, true_and, AV.flat, *, -hK] | with_reducible refine IfB_dec (fun h => ?_) (fun h => ?_) | with_reducible refine Guard_dec (fun h => ?_) (fun h => ?_) | with_reducible refine Guard_ndec (fun h => ?_) (fun h => ?_) | with_reducible refine Guard_not (fun h => ?_) (fun h => ?_) | with_reducible refine IfB_ndec (fun h => ?_) (fun h => ?_) | with_reducible refine IfB_not (fun h => ?_) (fun h => ?_) | with_reducible refine Guard_split (fun h => ?_) (fun h => ?_) | with_reducible refine IfB_split (fun h => ?_) (fun h => ?_))
  case refine_1 =>
    have hlt : i < xs.length := by omega
    have e1 := at_enc (E := Enc.str) (k := .i64) se32 hlt rfl
    have e3 := inc_id hlt hn
    have e4 : Enc.str.cells xs[i] = [.str xs[i]] := rfl
    repeat' (first | simp only [go_sem, Nat.reduceLT, Nat.reduceEqDiff, Nat.reduceAdd, Nat.reduceMul, Nat.reduceSub, Nat.reduceLeDiff, Int.reduceToNat, Int.reduceNeg, Int.reduceLT, Int.reduceLE, Int.reduceEq, reduceCtorEq, Int.natCast_zero, Int.natCast_one, Int.cast_ofNat_Int, Bool.not_not, false_eq_decide, true_eq_decide, hread0, hreadk, read_cons0, read_consk, astore_h0, astore_hk, hget0, hgetk, hset0, hsetk, hlen, hcat, Nat.add_assoc, Nat.add_zero, Nat.zero_add, List.length_append, and_true, true_and, AV.flat, *, -hK] | with_reducible refine IfB_dec (fun h => ?_) (fun h => ?_) | with_reducible refine Guard_dec (fun h => ?_) (fun h => ?_) | with_reducible refine Guard_ndec (fun h => ?_) (fun h => ?_) | with_reducible refine Guard_not (fun h => ?_) (fun h => ?_) | with_reducible refine IfB_ndec (fun h => ?_) (fun h => ?_) | with_reducible refine IfB_not (fun h => ?_) (fun h => ?_) | with_reducible refine Guard_split (fun h => ?_) (fun h => ?_) | with_reducible refine IfB_split (fun h => ?_) (fun h => ?_))
    case refine_1 =>
      refine hK _ _ ⟨?_, rfl⟩
      have : xs.findIdx? (fun x => decide (s = x)) = some i := by
        rw [List.findIdx?_eq_some_iff_getElem]
        exact ⟨hlt, by simp [h], fun j hj => by simpa using hno j hj (by omega)⟩
      rw [this]; rfl
    case refine_2 =>
      refine hR _ _ (by (repeat (first | exact hs | refine hA _ _ _ (by decide) ?_))) (xs.length - (i + 1)) (by omega) ⟨i + 1, rfl, by omega, by simp only [go_sem, Nat.reduceLT, Nat.reduceEqDiff, Nat.reduceAdd, Nat.reduceMul, Nat.reduceSub, Nat.reduceLeDiff, Int.reduceToNat, Int.reduceNeg, Int.reduceLT, Int.reduceLE, Int.reduceEq, reduceCtorEq], rfl, fun j hj hx => ?_⟩
      · by_cases e : j = i
        · subst e; exact h
        · exact hno j (by omega) hx
  case refine_2 =>
    repeat' (first | simp only [go_sem, Nat.reduceLT, Nat.reduceEqDiff, Nat.reduceAdd, Nat.reduceMul, Nat.reduceSub, Nat.reduceLeDiff, Int.reduceToNat, Int.reduceNeg, Int.reduceLT, Int.reduceLE, Int.reduceEq, reduceCtorEq, Int.natCast_zero, Int.natCast_one, Int.cast_ofNat_Int, Bool.not_not, false_eq_decide, true_eq_decide, hread0, hreadk, read_cons0, read_consk, astore_h0, astore_hk, hget0, hgetk, hset0, hsetk, hlen, hcat, Nat.add_assoc, Nat.add_zero, Nat.zero_add, List.length_append, and_true, true_and, AV.flat, *, -hK] | with_reducible refine IfB_dec (fun h => ?_) (fun h => ?_) | with_reducible refine Guard_dec (fun h => ?_) (fun h => ?_) | with_reducible refine Guard_ndec (fun h => ?_) (fun h => ?_) | with_reducible refine Guard_not (fun h => ?_) (fun h => ?_) | with_reducible refine IfB_ndec (fun h => ?_) (fun h => ?_) | with_reducible refine IfB_not (fun h => ?_) (fun h => ?_) | with_reducible refine Guard_split (fun h => ?_) (fun h => ?_) | with_reducible refine IfB_split (fun h => ?_) (fun h => ?_))
    refine hK _ _ ⟨?_, rfl⟩
    have : xs.findIdx? (fun x => decide (s = x)) = none := by
      rw [List.findIdx?_eq_none_iff]
      intro x hx
      obtain ⟨j, hj, rfl⟩ := List.getElem_of_mem hx
      simpa using hno j (by omega) hj
    rw [this]; rfl
theorem strHas_spec (xs : List (List UInt8)) (s : List UInt8) (hn : xs.length ≤ 140737488355328) (H : Heap) :
    WC Try.prog 70 [Enc.str.lst xs, .str s] H fun r H' => r = .bool (decide (s ∈ xs)) ∧ H' = H := by
  refine WC_of_K fun K hK => ?_
  refine WC_of_body hT Try.func70 rfl (by simp [Try.f70]) (by simp [Try.f70]) (wx_sound hT _ ?_)
  simp only [Try.f70]
  repeat' (first | simp only [go_sem, Nat.reduceLT, Nat.reduceEqDiff, Nat.reduceAdd, Nat.reduceMul, Nat.reduceSub, Nat.reduceLeDiff, Int.reduceToNat, Int.reduceNeg, Int.reduceLT, Int.reduceLE, Int.reduceEq, reduceCtorEq, Int.natCast_zero, Int.natCast_one, Int.cast_ofNat_Int, Bool.not_not, false_eq_decide, true_eq_decide, hread0, hreadk, read_cons0, read_consk, astore_h0, astore_hk, hget0, hgetk, hset0, hsetk, hlen, hcat, Nat.add_assoc, Nat.add_zero, Nat.zero_add, List.length_append, and_true, true_and, AV.flat, *, -hK] | refine WC.call (strIdx_spec xs s hn _) ?_ | with_reducible refine IfB_dec (fun h => ?_) (fun h => ?_) | with_reducible refine Guard_dec (fun h => ?_) (fun h => ?_) | with_reducible refine Guard_ndec (fun h => ?_) (fun h => ?_) | with_reducible refine Guard_not (fun h => ?_) (fun h => ?_) | with_reducible refine IfB_ndec (fun h => ?_) (fun h => ?_) | with_reducible refine IfB_not (fun h => ?_) (fun h => ?_) | with_reducible refine Guard_split (fun h => ?_) (fun h => ?_) | with_reducible refine IfB_split (fun h => ?_) (fun h => ?_))
  refine hK _ _ ⟨?_, rfl⟩
  congr 1
  cases hf : xs.findIdx? (fun x => decide (s = x)) with
  | none =>
    rw [List.findIdx?_eq_none_iff] at hf
    have : ¬ s ∈ xs := fun h => by have := hf s h; simp at this
    simp [this, idxI]
  | some i =>
    rw [List.findIdx?_eq_some_iff_getElem] at hf
    obtain ⟨hi, hp1, _⟩ := hf
    have : s ∈ xs := by simp at hp1; rw [hp1]; exact List.getElem_mem hi
    simp [this, idxI]
def kGo : List (List UInt8) → List (List UInt8) → Bool
  | _, [] => true
  | pre, k :: l => decide (1 ≤ k.length ∧ k.length ≤ 32) && !decide (k ∈ pre) && kGo (pre ++ [k]) l
theorem kGo_step {xs : List (List UInt8)} {i : Nat} (h : i < xs.length) : kGo (xs.take i) (xs.drop i) = (decide (1 ≤ xs[i].length ∧ xs[i].length ≤ 32) && !decide (xs[i] ∈ xs.take i) && kGo (xs.take (i + 1)) (xs.drop (i + 1))) := by
  rw [List.drop_eq_getElem_cons h, kGo, List.take_succ_eq_append_getElem h]
theorem kGo_iff : ∀ (l pre : List (List UInt8)), kGo pre l = true ↔ (∀ k ∈ l, 1 ≤ k.length ∧ k.length ≤ 32 ∧ k ∉ pre) ∧ l.Nodup
  | [], pre => by simp [kGo]
  | x :: l, pre => by
    rw [kGo, Bool.and_eq_true, kGo_iff l]
    simp only [Bool.and_eq_true, Bool.not_eq_true', decide_eq_true_eq, decide_eq_false_iff_not, List.nodup_cons, List.mem_cons, List.mem_append, List.not_mem_nil, or_false]
    constructor
    · rintro ⟨⟨h1, h2⟩, h3, h4⟩
      refine ⟨fun y hy => ?_, fun hx => (h3 x hx).2.2 (.inr rfl), h4⟩
      rcases hy with rfl | hy
      · exact ⟨h1.1, h1.2, h2⟩
      · exact ⟨(h3 y hy).1, (h3 y hy).2.1, fun hp => (h3 y hy).2.2 (.inl hp)⟩
    · rintro ⟨h1, h2, h3⟩
      refine ⟨⟨⟨(h1 x (.inl rfl)).1, (h1 x (.inl rfl)).2.1⟩, (h1 x (.inl rfl)).2.2⟩, fun y hy => ⟨(h1 y (.inr hy)).1, (h1 y (.inr hy)).2.1, ?_⟩, h3⟩
      rintro (hp | rfl)
      · exact (h1 y (.inr hy)).2.2 hp
      · exact h2 hy
def loK (k : Int) : Int := if k = 11 then 0 else 1
def hiK (k : Int) : Int := if k = 1 ∨ k = 10 then 8 else if k = 11 then 0 else 1
def band (h m : Int) : Int := IntKind.i64.wrap ↑(BitVec.ofInt IntKind.i64.bits h &&& BitVec.ofInt IntKind.i64.bits m).toNat
theorem band_fold (h m : Int) : IntKind.i64.wrap ↑(BitVec.ofInt IntKind.i64.bits h &&& BitVec.ofInt IntKind.i64.bits m).toNat = band h m := rfl
theorem ordKeyed_spec (c : Cmd) (h lo hi : Int) (hn : c.keys.length ≤ 140737488355328)
    (hb : (band h 1 ≠ 0 ∧ lo = 1 ∧ hi = 8) ∨ (band h 1 = 0 ∧ band h 64 = 0 ∧ lo = 1 ∧ hi = 1) ∨ (band h 1 = 0 ∧ band h 64 ≠ 0 ∧ lo = 0 ∧ hi = 0)) (H : Heap) :
    WC Try.prog 63 [c.av, .int .i64 h] H fun r H' => r = .bool (decide (lo ≤ c.keys.length ∧ c.keys.length ≤ hi) && kGo [] c.keys) ∧ H' = H := by
  refine WC_val fun K hK => ?_
  refine WC_of_body hT Try.func63 rfl (by simp [Try.f63]) (by simp [Try.f63]) (wx_sound hT _ ?_)
  simp only [Try.f63]
  rcases hb with ⟨b1, rfl, rfl⟩ | ⟨b1, b2, rfl, rfl⟩ | ⟨b1, b2, rfl, rfl⟩
  all_goals
    have bf := band_fold
    simp only [IntKind.bits] at bf
    repeat' (first | simp only [go_sem, Nat.reduceLT, Nat.reduceEqDiff, Nat.reduceAdd, Nat.reduceMul, Nat.reduceSub, Nat.reduceLeDiff, Int.reduceToNat, Int.reduceNeg, Int.reduceLT, Int.reduceLE, Int.reduceEq, reduceCtorEq, Int.natCast_zero, Int.natCast_one, Int.cast_ofNat_Int, Bool.not_not, false_eq_decide, true_eq_decide, hread0, hreadk, read_cons0, read_consk, astore_h0, astore_hk, hget0, hgetk, hset0, hsetk, hlen, hcat, Nat.add_assoc, Nat.add_zero, Nat.zero_add, List.length_append, and_true, true_and, AV.flat, Cmd.av, bf, *, -hK] | with_reducible refine IfB_dec (fun h => ?_) (fun h => ?_) | with_reducible refine Guard_dec (fun h => ?_) (fun h => ?_) | with_reducible refine Guard_ndec (fun h => ?_) (fun h => ?_) | with_reducible refine Guard_not (fun h => ?_) (fun h => ?_) | with_reducible refine IfB_ndec (fun h => ?_) (fun h => ?_) | with_reducible refine IfB_not (fun h => ?_) (fun h => ?_) | with_reducible refine Guard_split (fun h => ?_) (fun h => ?_) | with_reducible refine IfB_split (fun h => ?_) (fun h => ?_))
    all_goals clear bf
    all_goals try (refine hK _ _ (Thaw.of_eq ?_ rfl) (Keep.app _ _ _); congr 1; symm; rw [Bool.and_eq_false_iff]; left; simp only [decide_eq_false_iff_not]; omega)
    all_goals
      refine WX_loopS [2, 30, 31] (fun k fr' H' => ∃ i : Nat, k = c.keys.length - i ∧ i ≤ c.keys.length ∧ fr'.get 32 = .int .i64 i ∧ H' = H ++ [⟨[.int .u8 c.kind, .int .i64 c.ten, Enc.str.lst c.keys, .str c.val, .int .u32 c.flags, .int .i64 c.for_, .int .u64 c.uniq, .int .u64 c.by_], 0, .full⟩] ∧ kGo [] c.keys = kGo (c.keys.take i) (c.keys.drop i)) c.keys.length ⟨0, rfl, by omega, by simp only [go_sem, Nat.reduceLT, Nat.reduceEqDiff, Nat.reduceAdd, Nat.reduceMul, Nat.reduceSub, Nat.reduceLeDiff, Int.reduceToNat, Int.reduceNeg, Int.reduceLT, Int.reduceLE, Int.reduceEq, reduceCtorEq]; rfl, by simp only [*, -hK], rfl⟩ ?_
      rintro k fr' H' A R hA hs hg hR ⟨i, rfl, hi, f32, rfl, hgood⟩
      have s2 := hg 2 (by decide)
      have s30 := hg 30 (by decide)
      have s31 := hg 31 (by decide)
      simp only [Fr.get_put, Fr.get_init, List.getD_cons_zero, List.getD_cons_succ, Nat.reduceEqDiff, if_true, if_false] at s2 s30 s31
      refine wx_sound hT _ ?_
      repeat' (first | simp only [go_sem, Nat.reduceLT, Nat.reduceEqDiff, Nat.reduceAdd, Nat.reduceMul, Nat.reduceSub, Nat.reduceLeDiff, Int.reduceToNat, Int.reduceNeg, Int.reduceLT, Int.reduceLE, Int.reduceEq, reduceCtorEq, Int.natCast_zero, Int.natCast_one, Int.cast_ofNat_Int, Bool.not_not, false_eq_decide, true_eq_decide, hread0, hreadk, read_cons0, read_consk, astore_h0, astore_hk, hget0, hgetk, hset0, hsetk, hlen, hcat, Nat.add_assoc, Nat.add_zero, Nat.zero_add, List.length_append, and_true, true_and, AV.flat, *, -hK, -hgood] | with_reducible refine IfB_dec (fun h => ?_) (fun h => ?_) | with_reducible refine Guard_dec (fun h => ?_) (fun h => ?_) | with_reducible refine Guard_ndec (fun h => ?_) (fun h => ?_) | with_reducible refine Guard_not (fun h => ?_) (fun h => ?_) | with_reducible refine IfB_ndec (fun h => ?_) (fun h => ?_) | with_reducible refine IfB_not (fun h => ?_) (fun h => ?_) | with_reducible refine Guard_split (fun h => ?_) (fun h => ?_) | with_reducible refine IfB_split (fun h => ?_) (fun h => ?_))
      case refine_1 =>
        have hlt : i < c.keys.length := by omega
        rw [kGo_step hlt] at hgood
        have e1 := at_enc (E := Enc.str) (k := .i64) se32 hlt rfl
        have e2 := fun J => slice_enc (H := J) (E := Enc.str) (xs := c.keys) (l := 0) (u := i) (lo := none) (hi := some (.int .i64 i)) se32 rfl (abound_nat i rfl) (Nat.zero_le _) hi
        have e3 := inc_id hlt (show c.keys.length ≤ 140737488355328 by omega)
        have e4 : Enc.str.cells c.keys[i] = [.str c.keys[i]] := rfl
        have hl : (c.keys.take i).length ≤ 140737488355328 := by rw [List.length_take]; omega
        rw [List.drop_zero] at e2
        repeat' (first | simp only [go_sem, Nat.reduceLT, Nat.reduceEqDiff, Nat.reduceAdd, Nat.reduceMul, Nat.reduceSub, Nat.reduceLeDiff, Int.reduceToNat, Int.reduceNeg, Int.reduceLT, Int.reduceLE, Int.reduceEq, reduceCtorEq, Int.natCast_zero, Int.natCast_one, Int.cast_ofNat_Int, Bool.not_not, false_eq_decide, true_eq_decide, hread0, hreadk, read_cons0, read_consk, astore_h0, astore_hk, hget0, hgetk, hset0, hsetk, hlen, hcat, Nat.add_assoc, Nat.add_zero, Nat.zero_add, List.length_append, and_true, true_and, AV.flat, *, -hK, -hgood] | refine WC.call (strHas_spec (c.keys.take i) _ hl _) ?_ | with_reducible refine IfB_dec (fun h => ?_) (fun h => ?_) | with_reducible refine Guard_dec (fun h => ?_) (fun h => ?_) | with_reducible refine Guard_ndec (fun h => ?_) (fun h => ?_) | with_reducible refine Guard_not (fun h => ?_) (fun h => ?_) | with_reducible refine IfB_ndec (fun h => ?_) (fun h => ?_) | with_reducible refine IfB_not (fun h => ?_) (fun h => ?_) | with_reducible refine Guard_split (fun h => ?_) (fun h => ?_) | with_reducible refine IfB_split (fun h => ?_) (fun h => ?_))
        all_goals first
          | (refine hK _ _ (Thaw.of_eq ?_ rfl) (Keep.app _ _ _); congr 1; rw [hgood]; symm; rw [Bool.and_eq_false_iff]; right; simp [*, -hK]; done)
          | (refine hK _ _ (Thaw.of_eq ?_ rfl) (Keep.app _ _ _); congr 1; rw [hgood]; symm; rw [Bool.and_eq_false_iff]; right; simp [*, -hK]; omega)
          | (refine hR _ _ (by (repeat (first | exact hs | refine hA _ _ _ (by decide) ?_))) (c.keys.length - (i + 1)) (by omega) ⟨i + 1, rfl, by omega, by simp only [go_sem, Nat.reduceLT, Nat.reduceEqDiff, Nat.reduceAdd, Nat.reduceMul, Nat.reduceSub, Nat.reduceLeDiff, Int.reduceToNat, Int.reduceNeg, Int.reduceLT, Int.reduceLE, Int.reduceEq, reduceCtorEq], by simp only [*, -hK, -hR], by rw [hgood]; simp [*, -hK]; try omega⟩)
      case refine_2 =>
        repeat' (first | simp only [go_sem, Nat.reduceLT, Nat.reduceEqDiff, Nat.reduceAdd, Nat.reduceMul, Nat.reduceSub, Nat.reduceLeDiff, Int.reduceToNat, Int.reduceNeg, Int.reduceLT, Int.reduceLE, Int.reduceEq, reduceCtorEq, Int.natCast_zero, Int.natCast_one, Int.cast_ofNat_Int, Bool.not_not, false_eq_decide, true_eq_decide, hread0, hreadk, read_cons0, read_consk, astore_h0, astore_hk, hget0, hgetk, hset0, hsetk, hlen, hcat, Nat.add_assoc, Nat.add_zero, Nat.zero_add, List.length_append, and_true, true_and, AV.flat, *, -hK] | with_reducible refine IfB_dec (fun h => ?_) (fun h => ?_) | with_reducible refine Guard_dec (fun h => ?_) (fun h => ?_) | with_reducible refine Guard_ndec (fun h => ?_) (fun h => ?_) | with_reducible refine Guard_not (fun h => ?_) (fun h => ?_) | with_reducible refine IfB_ndec (fun h => ?_) (fun h => ?_) | with_reducible refine IfB_not (fun h => ?_) (fun h => ?_) | with_reducible refine Guard_split (fun h => ?_) (fun h => ?_) | with_reducible refine IfB_split (fun h => ?_) (fun h => ?_))
        refine hK _ _ (Thaw.of_eq ?_ rfl) (Keep.app _ _ _)
        have : i = c.keys.length := by omega
        rw [this, List.drop_length, kGo] at hgood
        congr 1
        rw [hgood, Bool.and_true]
        symm; rw [decide_eq_true_eq]; omega
def putsP (k : Int) : Prop := 2 ≤ k ∧ k ≤ 5
instance (k : Int) : Decidable (putsP k) := by unfold putsP; infer_instance
def keysB (k : Int) (l : List (List UInt8)) : Bool := decide (loK k ≤ l.length ∧ l.length ≤ hiK k) && kGo [] l
def restB (c : Cmd) : Bool := decide ((c.val.length ≤ 512 ∧ (c.val.length = 0 ∨ (2 ≤ c.kind ∧ c.kind ≤ 5) ∨ c.kind = 8)) ∧ (0 ≤ c.for_ ∧ c.for_ ≤ 1099511627776 ∧ (c.for_ = 0 ∨ (2 ≤ c.kind ∧ c.kind ≤ 5) ∨ c.kind = 9)) ∧ (c.flags = 0 ∨ (2 ≤ c.kind ∧ c.kind ≤ 5)) ∧ (c.uniq = 0 ∨ c.kind = 5) ∧ (c.by_ = 0 ∨ c.kind = 6 ∨ c.kind = 7))
/-- Which commands may be. -/
def cmdB (c : Cmd) : Bool := decide (1 ≤ c.kind ∧ c.kind ≤ 11 ∧ 0 ≤ c.ten ∧ c.ten < 4) && keysB c.kind c.keys && restB c
theorem has_facts (k : Int) : (hasL k = 0 ↔ ¬ (1 ≤ k ∧ k ≤ 11)) ∧ (band (hasL k) 2 = 0 ↔ ¬ (putsP k ∨ k = 8)) ∧ (band (hasL k) 4 = 0 ↔ ¬ (putsP k ∨ k = 9)) ∧ (band (hasL k) 8 = 0 ↔ ¬ putsP k) ∧ (band (hasL k) 16 = 0 ↔ ¬ k = 5) ∧ (band (hasL k) 32 = 0 ↔ ¬ (k = 6 ∨ k = 7)) ∧
    (1 ≤ k ∧ k ≤ 11 → (band (hasL k) 1 ≠ 0 ∧ loK k = 1 ∧ hiK k = 8) ∨ (band (hasL k) 1 = 0 ∧ band (hasL k) 64 = 0 ∧ loK k = 1 ∧ hiK k = 1) ∨ (band (hasL k) 1 = 0 ∧ band (hasL k) 64 ≠ 0 ∧ loK k = 0 ∧ hiK k = 0)) := by
  by_cases h : 1 ≤ k ∧ k ≤ 11
  · have : k = 1 ∨ k = 2 ∨ k = 3 ∨ k = 4 ∨ k = 5 ∨ k = 6 ∨ k = 7 ∨ k = 8 ∨ k = 9 ∨ k = 10 ∨ k = 11 := by omega
    rcases this with rfl | rfl | rfl | rfl | rfl | rfl | rfl | rfl | rfl | rfl | rfl <;> decide
  · have h0 : hasL k = 0 := by
      unfold hasL
      rw [if_neg (by omega), if_neg (by omega), if_neg (by omega), if_neg (by omega), if_neg (by omega), if_neg (by omega), if_neg (by omega)]
    have hp : ¬ putsP k := by unfold putsP; omega
    rw [h0]
    refine ⟨by simp [h], ?_, ?_, ?_, ?_, ?_, fun q => absurd q h⟩
    · simp only [hp, false_or]; exact ⟨fun _ => by omega, fun _ => by decide⟩
    · simp only [hp, false_or]; exact ⟨fun _ => by omega, fun _ => by decide⟩
    · exact ⟨fun _ => hp, fun _ => by decide⟩
    · exact ⟨fun _ => by omega, fun _ => by decide⟩
    · exact ⟨fun _ => by omega, fun _ => by decide⟩
theorem ordMay_spec (c : Cmd) (hn : c.keys.length ≤ 140737488355328) (H : Heap) : WC Try.prog 51 [c.av] H fun r H' => r = .bool (cmdB c) ∧ H' = H := by
  refine WC_val fun K hK => ?_
  obtain ⟨f0, f2, f4, f8, f16, f32, fk⟩ := has_facts c.kind
  refine WC_of_body hT Try.func51 rfl (by simp [Try.f51]) (by simp [Try.f51]) (wx_sound hT _ ?_)
  simp only [Try.f51]
  by_cases hk : 1 ≤ c.kind ∧ c.kind ≤ 11
  · have hks := fun J => ordKeyed_spec c (hasL c.kind) _ _ hn (fk hk) J
    have hh0 : ¬ hasL c.kind = 0 := by rw [f0]; simp [hk]
    have hh := fun J => has_spec c.kind J
    clear fk f0
    generalize hasL c.kind = h at *
    have hkb : (decide (loK c.kind ≤ ↑c.keys.length ∧ ↑c.keys.length ≤ hiK c.kind) && kGo [] c.keys) = keysB c.kind c.keys := rfl
    rw [hkb] at hks
    have hcm : cmdB c = (decide (1 ≤ c.kind ∧ c.kind ≤ 11 ∧ 0 ≤ c.ten ∧ c.ten < 4) && keysB c.kind c.keys && restB c) := rfl
    have hv : (c.val = []) = (c.val.length = 0) := by rw [List.length_eq_zero_iff]
    clear hkb
    generalize keysB c.kind c.keys = q at *
    unfold restB at hcm
    simp only [putsP] at f2 f4 f8
    cases q
    all_goals
      have bf := band_fold
      simp only [IntKind.bits] at bf
      repeat' (first | simp only [go_sem, Nat.reduceLT, Nat.reduceEqDiff, Nat.reduceAdd, Nat.reduceMul, Nat.reduceSub, Nat.reduceLeDiff, Int.reduceToNat, Int.reduceNeg, Int.reduceLT, Int.reduceLE, Int.reduceEq, reduceCtorEq, Int.natCast_zero, Int.natCast_one, Int.cast_ofNat_Int, Bool.not_not, false_eq_decide, true_eq_decide, hread0, hreadk, read_cons0, read_consk, astore_h0, astore_hk, hget0, hgetk, hset0, hsetk, hlen, hcat, Nat.add_assoc, Nat.add_zero, Nat.zero_add, List.length_append, and_true, true_and, AV.flat, Cmd.av, bf, *, -hK, -hks, -f2, -f4, -f8, -f16, -f32, -hk, -hcm, -hh] | refine WC.call (hh _) ?_ | refine WC.call (hks _) ?_ | with_reducible refine IfB_dec (fun h => ?_) (fun h => ?_) | with_reducible refine Guard_dec (fun h => ?_) (fun h => ?_) | with_reducible refine Guard_ndec (fun h => ?_) (fun h => ?_) | with_reducible refine Guard_not (fun h => ?_) (fun h => ?_) | with_reducible refine IfB_ndec (fun h => ?_) (fun h => ?_) | with_reducible refine IfB_not (fun h => ?_) (fun h => ?_) | with_reducible refine Guard_split (fun h => ?_) (fun h => ?_) | with_reducible refine IfB_split (fun h => ?_) (fun h => ?_))
      all_goals
        refine hK _ _ (Thaw.of_eq ?_ rfl) (Keep.app _ _ _)
        congr 1
        rw [hcm, Bool.eq_iff_iff]
        clear hK hh hks hcm hv
        simp only [f2, f4, f8, f16, f32] at *
        clear f2 f4 f8 f16 f32
        simp only [Bool.and_eq_true, Bool.false_eq_true, decide_eq_true_eq, and_true, true_and, false_and, and_false, false_iff, true_iff, not_false_eq_true]
        try omega
  · have h0 : hasL c.kind = 0 := by rw [f0]; exact hk
    repeat' (first | simp only [go_sem, Nat.reduceLT, Nat.reduceEqDiff, Nat.reduceAdd, Nat.reduceMul, Nat.reduceSub, Nat.reduceLeDiff, Int.reduceToNat, Int.reduceNeg, Int.reduceLT, Int.reduceLE, Int.reduceEq, reduceCtorEq, Int.natCast_zero, Int.natCast_one, Int.cast_ofNat_Int, Bool.not_not, false_eq_decide, true_eq_decide, hread0, hreadk, read_cons0, read_consk, astore_h0, astore_hk, hget0, hgetk, hset0, hsetk, hlen, hcat, Nat.add_assoc, Nat.add_zero, Nat.zero_add, List.length_append, and_true, true_and, AV.flat, Cmd.av, *, -hK, -hk] | refine WC.call (has_spec c.kind _) ?_ | with_reducible refine IfB_dec (fun h => ?_) (fun h => ?_) | with_reducible refine Guard_dec (fun h => ?_) (fun h => ?_) | with_reducible refine Guard_ndec (fun h => ?_) (fun h => ?_) | with_reducible refine Guard_not (fun h => ?_) (fun h => ?_) | with_reducible refine IfB_ndec (fun h => ?_) (fun h => ?_) | with_reducible refine IfB_not (fun h => ?_) (fun h => ?_) | with_reducible refine Guard_split (fun h => ?_) (fun h => ?_) | with_reducible refine IfB_split (fun h => ?_) (fun h => ?_))
    refine hK _ _ (Thaw.of_eq ?_ rfl) (Keep.app _ _ _)
    rw [cmdB, decide_eq_false (by omega)]
    simp
theorem str_cells (x : List UInt8) : Enc.str.cells x = [.str x] := rfl
theorem int_cells (x : Int) : (Enc.int .i64).cells x = [.int .i64 x] := rfl
def Cmd.cs (c : Cmd) : List AV := [.int .u8 c.kind, .int .i64 c.ten, Enc.str.lst c.keys, .str c.val, .int .u32 c.flags, .int .i64 c.for_, .int .u64 c.uniq, .int .u64 c.by_]
def ordE (c : Cmd) : Int := if cmdB c then 0 else 100
theorem ordCheck_spec (c : Cmd) (hn : c.keys.length ≤ 1000) (H : Heap) : WC Try.prog 47 [c.av] H fun r H' => r = .int .i64 (ordE c) ∧ H' = H := by
  refine WC_val fun K hK => ?_
  refine WC_of_body hT Try.func47 rfl (by simp [Try.f47]) (by simp [Try.f47]) (wx_sound hT _ ?_)
  simp only [Try.f47]
  repeat' (first | simp only [go_sem, Nat.reduceLT, Nat.reduceEqDiff, Nat.reduceAdd, Nat.reduceMul, Nat.reduceSub, Nat.reduceLeDiff, Int.reduceToNat, Int.reduceNeg, Int.reduceLT, Int.reduceLE, Int.reduceEq, reduceCtorEq, Int.natCast_zero, Int.natCast_one, Int.cast_ofNat_Int, Bool.not_not, false_eq_decide, true_eq_decide, hread0, hreadk, read_cons0, read_consk, astore_h0, astore_hk, hget0, hgetk, hset0, hsetk, hlen, hcat, Nat.add_assoc, Nat.add_zero, Nat.zero_add, List.length_append, and_true, true_and, AV.flat, Cmd.av, *, -hK] | refine WC.call (ordMay_spec c (by omega) _) ?_ | with_reducible refine IfB_dec (fun h => ?_) (fun h => ?_) | with_reducible refine Guard_dec (fun h => ?_) (fun h => ?_) | with_reducible refine Guard_ndec (fun h => ?_) (fun h => ?_) | with_reducible refine Guard_not (fun h => ?_) (fun h => ?_) | with_reducible refine IfB_ndec (fun h => ?_) (fun h => ?_) | with_reducible refine IfB_not (fun h => ?_) (fun h => ?_) | with_reducible refine Guard_split (fun h => ?_) (fun h => ?_) | with_reducible refine IfB_split (fun h => ?_) (fun h => ?_))
  all_goals (refine hK _ _ (Thaw.of_eq ?_ rfl) (Keep.app _ _ _); simp [ordE, *, -hK])
def shE (c : Cmd) (n : Int) : Int := if cmdB c = false then 100 else if n < 1 ∨ n > 4 then 2 else 0
def needB (c : Cmd) (n : Int) (i : Nat) : Bool := decide (c.kind = 11) || c.keys.any fun k => decide ((shardL c.ten k n).1 = i)
def needL (c : Cmd) (n : Int) (m : Nat) : List Int := ((List.range m).filter fun i => needB c n i).map fun i : Nat => (i : Int)
def shL (c : Cmd) (n : Int) : List Int := if shE c n = 0 then needL c n n.toNat else []
theorem needL_step (c : Cmd) (n : Int) (m : Nat) : needL c n (m + 1) = needL c n m ++ if needB c n m then [(m : Int)] else [] := by
  unfold needL
  rw [List.range_succ, List.filter_append, List.map_append]
  congr 1
  cases h : needB c n m <;> simp [h]
theorem needL_len (c : Cmd) (n : Int) (m : Nat) : (needL c n m).length ≤ m := by
  unfold needL
  rw [List.length_map]
  exact Nat.le_trans (List.length_filter_le _ _) (by simp)
theorem of_spec (c : Cmd) (k : List UInt8) (n : Int) (hk : k.length ≤ 100000) (H : Heap) : WC Try.prog 54 [c.av, .str k, .int .i64 n] H fun r H' => r = .int .i64 (shardL c.ten k n).1 ∧ H' = H := by
  refine WC_val fun K hK => ?_
  refine WC_of_body hT Try.func54 rfl (by simp [Try.f54]) (by simp [Try.f54]) (wx_sound hT _ ?_)
  simp only [Try.f54]
  repeat' (first | simp only [go_sem, Nat.reduceLT, Nat.reduceEqDiff, Nat.reduceAdd, Nat.reduceMul, Nat.reduceSub, Nat.reduceLeDiff, Int.reduceToNat, Int.reduceNeg, Int.reduceLT, Int.reduceLE, Int.reduceEq, reduceCtorEq, Int.natCast_zero, Int.natCast_one, Int.cast_ofNat_Int, Bool.not_not, false_eq_decide, true_eq_decide, hread0, hreadk, read_cons0, read_consk, astore_h0, astore_hk, hget0, hgetk, hset0, hsetk, hlen, hcat, Nat.add_assoc, Nat.add_zero, Nat.zero_add, List.length_append, and_true, true_and, AV.flat, Cmd.av, *, -hK] | refine WC.call (shardP c.ten k n hk _) ?_ | with_reducible refine IfB_dec (fun h => ?_) (fun h => ?_) | with_reducible refine Guard_dec (fun h => ?_) (fun h => ?_) | with_reducible refine Guard_ndec (fun h => ?_) (fun h => ?_) | with_reducible refine Guard_not (fun h => ?_) (fun h => ?_) | with_reducible refine IfB_ndec (fun h => ?_) (fun h => ?_) | with_reducible refine IfB_not (fun h => ?_) (fun h => ?_) | with_reducible refine Guard_split (fun h => ?_) (fun h => ?_) | with_reducible refine IfB_split (fun h => ?_) (fun h => ?_))
  exact hK _ _ (.int _ _) (Keep.app _ _ _)
theorem shards1_spec (c : Cmd) (k : List UInt8) (n i : Int) (hk : k.length ≤ 100000) (H : Heap) (b0 b1 b2 : Nat) (h0 : H[b0]? = some ⟨c.cs, 0, .full⟩) (h1 : H[b1]? = some ⟨[.int .i64 n], 0, .full⟩) (h2 : H[b2]? = some ⟨[.int .i64 i], 0, .full⟩) :
    WC Try.prog 53 [.str k, .ptr b0 0, .ptr b1 0, .ptr b2 0] H fun r H' => r = .bool (decide ((shardL c.ten k n).1 = i)) ∧ H' = H := by
  refine WC_val fun K hK => ?_
  unfold Cmd.cs at h0
  refine WC_of_body hT Try.func53 rfl (by simp [Try.f53]) (by simp [Try.f53]) (wx_sound hT _ ?_)
  simp only [Try.f53]
  repeat' (first | simp only [go_sem, Nat.reduceLT, Nat.reduceEqDiff, Nat.reduceAdd, Nat.reduceMul, Nat.reduceSub, Nat.reduceLeDiff, Int.reduceToNat, Int.reduceNeg, Int.reduceLT, Int.reduceLE, Int.reduceEq, reduceCtorEq, Int.natCast_zero, Int.natCast_one, Int.cast_ofNat_Int, Bool.not_not, false_eq_decide, true_eq_decide, hread0, hreadk, read_cons0, read_consk, astore_h0, astore_hk, hget0, hgetk, hset0, hsetk, hlen, hcat, Nat.add_assoc, Nat.add_zero, Nat.zero_add, List.length_append, and_true, true_and, AV.flat, *, -hK] | with_reducible refine IfB_dec (fun h => ?_) (fun h => ?_) | with_reducible refine Guard_dec (fun h => ?_) (fun h => ?_) | with_reducible refine Guard_ndec (fun h => ?_) (fun h => ?_) | with_reducible refine Guard_not (fun h => ?_) (fun h => ?_) | with_reducible refine IfB_ndec (fun h => ?_) (fun h => ?_) | with_reducible refine IfB_not (fun h => ?_) (fun h => ?_) | with_reducible refine Guard_split (fun h => ?_) (fun h => ?_) | with_reducible refine IfB_split (fun h => ?_) (fun h => ?_))
  refine WX_rows hT hmix [(0, none), (1, none), (2, none), (4, none), (3, some [false, true, true, true]), (5, none), (6, none)] (by kernel_rfl) ?_
  repeat' (first | simp only [go_sem, Nat.reduceLT, Nat.reduceEqDiff, Nat.reduceAdd, Nat.reduceMul, Nat.reduceSub, Nat.reduceLeDiff, Int.reduceToNat, Int.reduceNeg, Int.reduceLT, Int.reduceLE, Int.reduceEq, reduceCtorEq, Int.natCast_zero, Int.natCast_one, Int.cast_ofNat_Int, Bool.not_not, false_eq_decide, true_eq_decide, hread0, hreadk, read_cons0, read_consk, astore_h0, astore_hk, hget0, hgetk, hset0, hsetk, hlen, hcat, Nat.add_assoc, Nat.add_zero, Nat.zero_add, List.length_append, and_true, true_and, AV.flat, Cmd.av, h0, get_app h0, read_get h0, read_app h0, h1, get_app h1, read_get h1, read_app h1, h2, get_app h2, read_get h2, read_app h2, *, -hK] | refine WC.call (of_spec c k n hk _) ?_ | with_reducible refine IfB_dec (fun h => ?_) (fun h => ?_) | with_reducible refine Guard_dec (fun h => ?_) (fun h => ?_) | with_reducible refine Guard_ndec (fun h => ?_) (fun h => ?_) | with_reducible refine Guard_not (fun h => ?_) (fun h => ?_) | with_reducible refine IfB_ndec (fun h => ?_) (fun h => ?_) | with_reducible refine IfB_not (fun h => ?_) (fun h => ?_) | with_reducible refine Guard_split (fun h => ?_) (fun h => ?_) | with_reducible refine IfB_split (fun h => ?_) (fun h => ?_))
  exact hK _ _ (.bool _) (Keep.refl _ _)
theorem sIdxF_spec (xs : List (List UInt8)) (g : FuncId) (cs : List AV) (p : (List UInt8) → Bool) (hn : xs.length ≤ 140737488355328) (H : Heap) (hp : ∀ x ∈ xs, WC Try.prog g (AV.str x :: cs) H fun r H' => r = .bool (p x) ∧ H' = H) :
    WC Try.prog 64 [(Enc.str).lst xs, .fn g [] cs] H fun r H' => r = .int .i64 (idxI (xs.findIdx? p)) ∧ H' = H := by
  refine WC_of_K fun K hK => ?_
  refine WC_of_body hT Try.func64 rfl (by simp [Try.f64]) (by simp [Try.f64]) (wx_sound hT _ ?_)
  simp only [Try.f64]
  repeat' (first | simp only [go_sem, Nat.reduceLT, Nat.reduceEqDiff, Nat.reduceAdd, Nat.reduceMul, Nat.reduceSub, Nat.reduceLeDiff, Int.reduceToNat, Int.reduceNeg, Int.reduceLT, Int.reduceLE, Int.reduceEq, reduceCtorEq, Int.natCast_zero, Int.natCast_one, Int.cast_ofNat_Int, Bool.not_not, false_eq_decide, true_eq_decide, hread0, hreadk, read_cons0, read_consk, astore_h0, astore_hk, hget0, hgetk, hset0, hsetk, hlen, hcat, Nat.add_assoc, Nat.add_zero, Nat.zero_add, List.length_append, and_true, true_and, AV.flat, *, -hK] | with_reducible refine IfB_dec (fun h => ?_) (fun h => ?_) | with_reducible refine Guard_dec (fun h => ?_) (fun h => ?_) | with_reducible refine Guard_ndec (fun h => ?_) (fun h => ?_) | with_reducible refine Guard_not (fun h => ?_) (fun h => ?_) | with_reducible refine IfB_ndec (fun h => ?_) (fun h => ?_) | with_reducible refine IfB_not (fun h => ?_) (fun h => ?_) | with_reducible refine Guard_split (fun h => ?_) (fun h => ?_) | with_reducible refine IfB_split (fun h => ?_) (fun h => ?_))
  refine WX_loopS [0, 1, 7] (fun k fr' H' => ∃ i : Nat, k = xs.length - i ∧ i ≤ xs.length ∧ fr'.get 8 = .int .i64 i ∧ H' = H ∧ ∀ j (hj : j < i) (hx : j < xs.length), p xs[j] = false) xs.length ⟨0, rfl, by omega, by simp only [go_sem, Nat.reduceLT, Nat.reduceEqDiff, Nat.reduceAdd, Nat.reduceMul, Nat.reduceSub, Nat.reduceLeDiff, Int.reduceToNat, Int.reduceNeg, Int.reduceLT, Int.reduceLE, Int.reduceEq, reduceCtorEq]; rfl, rfl, fun j hj => by omega⟩ ?_
  rintro k fr' H' A R hA hs hg hR ⟨i, rfl, hi, f8, rfl, hno⟩
  have s0 := hg 0 (by decide)
  have s1 := hg 1 (by decide)
  have s7 := hg 7 (by decide)
  simp only [Fr.get_put, Fr.get_init, List.getD_cons_zero, List.getD_cons_succ, Nat.reduceEqDiff, if_true, if_false] at s0 s1 s7
  refine wx_sound hT _ ?_
  repeat' (first | simp only [go_sem, Nat.reduceLT, Nat.reduceEqDiff, Nat.reduceAdd, Nat.reduceMul, Nat.reduceSub, Nat.reduceLeDiff, Int.reduceToNat, Int.reduceNeg, Int.reduceLT, Int.reduceLE, Int.reduceEq, reduceCtorEq, Int.natCast_zero, Int.natCast_one, Int.cast_ofNat_Int, Bool.not_not, false_eq_decide, true_eq_decide, hread0, hreadk, read_cons0, read_consk, astore_h0, astore_hk, hget0, hgetk, hset0, hsetk, hlen, hcat, Nat.add_assoc, Nat.add_zero, Nat.zero_add, List.length_append, and_true, true_and, AV.flat, *, -hK] | with_reducible refine IfB_dec (fun h => ?_) (fun h => ?_) | with_reducible refine Guard_dec (fun h => ?_) (fun h => ?_) | with_reducible refine Guard_ndec (fun h => ?_) (fun h => ?_) | with_reducible refine Guard_not (fun h => ?_) (fun h => ?_) | with_reducible refine IfB_ndec (fun h => ?_) (fun h => ?_) | with_reducible refine IfB_not (fun h => ?_) (fun h => ?_) | with_reducible refine Guard_split (fun h => ?_) (fun h => ?_) | with_reducible refine IfB_split (fun h => ?_) (fun h => ?_))
  case refine_1 =>
    have hlt : i < xs.length := by omega
    have e1 := at_enc (E := Enc.str) (k := .i64) se32 hlt rfl
    have e3 := inc_id hlt hn
    repeat' (first | simp only [go_sem, Nat.reduceLT, Nat.reduceEqDiff, Nat.reduceAdd, Nat.reduceMul, Nat.reduceSub, Nat.reduceLeDiff, Int.reduceToNat, Int.reduceNeg, Int.reduceLT, Int.reduceLE, Int.reduceEq, reduceCtorEq, Int.natCast_zero, Int.natCast_one, Int.cast_ofNat_Int, Bool.not_not, false_eq_decide, true_eq_decide, hread0, hreadk, read_cons0, read_consk, astore_h0, astore_hk, hget0, hgetk, hset0, hsetk, hlen, hcat, Nat.add_assoc, Nat.add_zero, Nat.zero_add, List.length_append, and_true, true_and, AV.flat, str_cells, *, -hK] | refine WC.call (hp _ (List.getElem_mem hlt)) ?_ | with_reducible refine IfB_dec (fun h => ?_) (fun h => ?_) | with_reducible refine Guard_dec (fun h => ?_) (fun h => ?_) | with_reducible refine Guard_ndec (fun h => ?_) (fun h => ?_) | with_reducible refine Guard_not (fun h => ?_) (fun h => ?_) | with_reducible refine IfB_ndec (fun h => ?_) (fun h => ?_) | with_reducible refine IfB_not (fun h => ?_) (fun h => ?_) | with_reducible refine Guard_split (fun h => ?_) (fun h => ?_) | with_reducible refine IfB_split (fun h => ?_) (fun h => ?_))
    case refine_1 =>
      refine hK _ _ ⟨?_, rfl⟩
      have : xs.findIdx? p = some i := by
        rw [List.findIdx?_eq_some_iff_getElem]
        exact ⟨hlt, h, fun j hj => by rw [hno j hj (by omega)]; simp⟩
      rw [this]; rfl
    case refine_2 =>
      refine hR _ _ (by (repeat (first | exact hs | refine hA _ _ _ (by decide) ?_))) (xs.length - (i + 1)) (by omega) ⟨i + 1, rfl, by omega, by simp only [go_sem, Nat.reduceLT, Nat.reduceEqDiff, Nat.reduceAdd, Nat.reduceMul, Nat.reduceSub, Nat.reduceLeDiff, Int.reduceToNat, Int.reduceNeg, Int.reduceLT, Int.reduceLE, Int.reduceEq, reduceCtorEq], rfl, fun j hj hx => ?_⟩
      · by_cases e : j = i
        · subst e; exact h
        · exact hno j (by omega) hx
  case refine_2 =>
    repeat' (first | simp only [go_sem, Nat.reduceLT, Nat.reduceEqDiff, Nat.reduceAdd, Nat.reduceMul, Nat.reduceSub, Nat.reduceLeDiff, Int.reduceToNat, Int.reduceNeg, Int.reduceLT, Int.reduceLE, Int.reduceEq, reduceCtorEq, Int.natCast_zero, Int.natCast_one, Int.cast_ofNat_Int, Bool.not_not, false_eq_decide, true_eq_decide, hread0, hreadk, read_cons0, read_consk, astore_h0, astore_hk, hget0, hgetk, hset0, hsetk, hlen, hcat, Nat.add_assoc, Nat.add_zero, Nat.zero_add, List.length_append, and_true, true_and, AV.flat, *, -hK] | with_reducible refine IfB_dec (fun h => ?_) (fun h => ?_) | with_reducible refine Guard_dec (fun h => ?_) (fun h => ?_) | with_reducible refine Guard_ndec (fun h => ?_) (fun h => ?_) | with_reducible refine Guard_not (fun h => ?_) (fun h => ?_) | with_reducible refine IfB_ndec (fun h => ?_) (fun h => ?_) | with_reducible refine IfB_not (fun h => ?_) (fun h => ?_) | with_reducible refine Guard_split (fun h => ?_) (fun h => ?_) | with_reducible refine IfB_split (fun h => ?_) (fun h => ?_))
    refine hK _ _ ⟨?_, rfl⟩
    have : xs.findIdx? p = none := by
      rw [List.findIdx?_eq_none_iff]
      intro x hx
      obtain ⟨j, hj, rfl⟩ := List.getElem_of_mem hx
      exact hno j (by omega) hj
    rw [this]; rfl
theorem sHasF_spec (xs : List (List UInt8)) (g : FuncId) (cs : List AV) (p : (List UInt8) → Bool) (hn : xs.length ≤ 140737488355328) (H : Heap) (hp : ∀ x ∈ xs, WC Try.prog g (AV.str x :: cs) H fun r H' => r = .bool (p x) ∧ H' = H) :
    WC Try.prog 52 [(Enc.str).lst xs, .fn g [] cs] H fun r H' => r = .bool (xs.any p) ∧ H' = H := by
  refine WC_of_K fun K hK => ?_
  refine WC_of_body hT Try.func52 rfl (by simp [Try.f52]) (by simp [Try.f52]) (wx_sound hT _ ?_)
  simp only [Try.f52]
  repeat' (first | simp only [go_sem, Nat.reduceLT, Nat.reduceEqDiff, Nat.reduceAdd, Nat.reduceMul, Nat.reduceSub, Nat.reduceLeDiff, Int.reduceToNat, Int.reduceNeg, Int.reduceLT, Int.reduceLE, Int.reduceEq, reduceCtorEq, Int.natCast_zero, Int.natCast_one, Int.cast_ofNat_Int, Bool.not_not, false_eq_decide, true_eq_decide, hread0, hreadk, read_cons0, read_consk, astore_h0, astore_hk, hget0, hgetk, hset0, hsetk, hlen, hcat, Nat.add_assoc, Nat.add_zero, Nat.zero_add, List.length_append, and_true, true_and, AV.flat, *, -hK] | refine WC.call (sIdxF_spec xs g cs p hn _ hp) ?_ | with_reducible refine IfB_dec (fun h => ?_) (fun h => ?_) | with_reducible refine Guard_dec (fun h => ?_) (fun h => ?_) | with_reducible refine Guard_ndec (fun h => ?_) (fun h => ?_) | with_reducible refine Guard_not (fun h => ?_) (fun h => ?_) | with_reducible refine IfB_ndec (fun h => ?_) (fun h => ?_) | with_reducible refine IfB_not (fun h => ?_) (fun h => ?_) | with_reducible refine Guard_split (fun h => ?_) (fun h => ?_) | with_reducible refine IfB_split (fun h => ?_) (fun h => ?_))
  refine hK _ _ ⟨?_, rfl⟩
  congr 1
  cases hf : xs.findIdx? p with
  | none =>
    rw [List.findIdx?_eq_none_iff] at hf
    have : xs.any p = false := by rw [List.any_eq_false]; intro x hx; simp [hf x hx]
    rw [this]; rfl
  | some i =>
    rw [List.findIdx?_eq_some_iff_getElem] at hf
    obtain ⟨hi, hp1, _⟩ := hf
    have : xs.any p = true := by rw [List.any_eq_true]; exact ⟨_, List.getElem_mem hi, hp1⟩
    rw [this]; simp [idxI]
theorem shards_own (c : Cmd) (n : Int) (hn : c.keys.length ≤ 1000) (hks : ∀ k ∈ c.keys, k.length ≤ 100000) (H : Heap) : WC Try.prog 37 [c.av, .int .i64 n] H fun r H' => ∃ v, r = .tup [v, .int .i64 (shE c n)] ∧ OwnE (Enc.int .i64) H.length H' v (shL c n) ∧ Keep none H H' := by
  refine WC_of_K fun K hK => ?_
  have hmay := fun J => ordMay_spec c (by omega) J
  have hbad : shE c n ≠ 0 → shL c n = [] := fun h => if_neg h
  refine WC_of_body hT Try.func37 rfl (by simp [Try.f37]) (by simp [Try.f37]) (wx_sound hT _ ?_)
  simp only [Try.f37]
  cases hc : cmdB c
  all_goals
    rw [hc] at hmay
    repeat' (first | simp only [go_sem, Nat.reduceLT, Nat.reduceEqDiff, Nat.reduceAdd, Nat.reduceMul, Nat.reduceSub, Nat.reduceLeDiff, Int.reduceToNat, Int.reduceNeg, Int.reduceLT, Int.reduceLE, Int.reduceEq, reduceCtorEq, Int.natCast_zero, Int.natCast_one, Int.cast_ofNat_Int, Bool.not_not, false_eq_decide, true_eq_decide, hread0, hreadk, read_cons0, read_consk, astore_h0, astore_hk, hget0, hgetk, hset0, hsetk, hlen, hcat, Nat.add_assoc, Nat.add_zero, Nat.zero_add, List.length_append, and_true, true_and, AV.flat, Cmd.av, *, -hK, -hmay, -hbad] | refine WC.call (hmay _) ?_ | with_reducible refine IfB_dec (fun h => ?_) (fun h => ?_) | with_reducible refine Guard_dec (fun h => ?_) (fun h => ?_) | with_reducible refine Guard_ndec (fun h => ?_) (fun h => ?_) | with_reducible refine Guard_not (fun h => ?_) (fun h => ?_) | with_reducible refine IfB_ndec (fun h => ?_) (fun h => ?_) | with_reducible refine IfB_not (fun h => ?_) (fun h => ?_) | with_reducible refine Guard_split (fun h => ?_) (fun h => ?_) | with_reducible refine IfB_split (fun h => ?_) (fun h => ?_))
  · have h0 : shE c n = 100 := by simp [shE, hc]
    exact hK _ _ ⟨.nils, by rw [h0], by rw [hbad (by rw [h0]; decide)]; exact OwnE.nils _ _ _, Keep.app _ _ _⟩
  · have h0 : shE c n = 2 := by rw [shE, if_neg (by simp [hc]), if_pos (by omega)]
    exact hK _ _ ⟨.nils, by rw [h0], by rw [hbad (by rw [h0]; decide)]; exact OwnE.nils _ _ _, Keep.app _ _ _⟩
  · have h0 : shE c n = 2 := by rw [shE, if_neg (by simp [hc]), if_pos (by omega)]
    exact hK _ _ ⟨.nils, by rw [h0], by rw [hbad (by rw [h0]; decide)]; exact OwnE.nils _ _ _, Keep.app _ _ _⟩
  · have h0 : shE c n = 0 := by rw [shE, if_neg (by simp [hc]), if_neg (by omega)]
    have h1 : shL c n = needL c n n.toNat := if_pos h0
    clear hbad hmay
    obtain ⟨N, rfl⟩ : ∃ N : Nat, n = (N : Int) := ⟨n.toNat, by omega⟩
    have hN : N ≤ 4 := by omega
    rw [Int.toNat_natCast] at h1
    refine WX_loopS [2, 3, 4, 5, 17] (fun k fr' H' => ∃ (i : Nat) (v : AV), k = N - i ∧ i ≤ N ∧ fr'.get 18 = .int .i64 i ∧ fr'.get 6 = v ∧ OwnE (Enc.int .i64) (H.length + 2) H' v (needL c N i) ∧ Keep none (H ++ [⟨c.cs, 0, .full⟩, ⟨[.int .i64 N], 0, .full⟩]) H') N ⟨0, .nils, rfl, by omega, by simp only [go_sem, Nat.reduceLT, Nat.reduceEqDiff, Nat.reduceAdd, Nat.reduceMul, Nat.reduceSub, Nat.reduceLeDiff, Int.reduceToNat, Int.reduceNeg, Int.reduceLT, Int.reduceLE, Int.reduceEq, reduceCtorEq]; rfl, by simp only [go_sem, Nat.reduceLT, Nat.reduceEqDiff, Nat.reduceAdd, Nat.reduceMul, Nat.reduceSub, Nat.reduceLeDiff, Int.reduceToNat, Int.reduceNeg, Int.reduceLT, Int.reduceLE, Int.reduceEq, reduceCtorEq], OwnE.nils _ _ _, Keep.refl _ _⟩ ?_
    rintro k fr' H' A R hA hs hg hR ⟨i, v, rfl, hi, f18, f6, ho, kk⟩
    have s2 := hg 2 (by decide)
    have s3 := hg 3 (by decide)
    have s4 := hg 4 (by decide)
    have s5 := hg 5 (by decide)
    have s17 := hg 17 (by decide)
    simp only [Fr.get_put, Fr.get_init, List.getD_cons_zero, List.getD_cons_succ, Nat.reduceEqDiff, if_true, if_false] at s2 s3 s4 s5 s17
    have hb0 : H'[H.length]? = some ⟨c.cs, 0, .full⟩ := kk.get (by rw [hget0]; rfl) (by simp)
    have hb1 : H'[H.length + 1]? = some ⟨[.int .i64 N], 0, .full⟩ := kk.get (by rw [hgetk]; rfl) (by simp)
    have hb0' := hb0
    unfold Cmd.cs at hb0
    have hv1 := ho.one
    have hlen := kk.len
    simp only [List.length_append, List.length_cons, List.length_nil] at hlen
    refine wx_sound hT _ ?_
    repeat' (first | simp only [go_sem, Nat.reduceLT, Nat.reduceEqDiff, Nat.reduceAdd, Nat.reduceMul, Nat.reduceSub, Nat.reduceLeDiff, Int.reduceToNat, Int.reduceNeg, Int.reduceLT, Int.reduceLE, Int.reduceEq, reduceCtorEq, Int.natCast_zero, Int.natCast_one, Int.cast_ofNat_Int, Bool.not_not, false_eq_decide, true_eq_decide, hread0, hreadk, read_cons0, read_consk, astore_h0, astore_hk, hget0, hgetk, hset0, hsetk, hlen, hcat, Nat.add_assoc, Nat.add_zero, Nat.zero_add, List.length_append, and_true, true_and, AV.flat, *, -hK] | with_reducible refine IfB_dec (fun h => ?_) (fun h => ?_) | with_reducible refine Guard_dec (fun h => ?_) (fun h => ?_) | with_reducible refine Guard_ndec (fun h => ?_) (fun h => ?_) | with_reducible refine Guard_not (fun h => ?_) (fun h => ?_) | with_reducible refine IfB_ndec (fun h => ?_) (fun h => ?_) | with_reducible refine IfB_not (fun h => ?_) (fun h => ?_) | with_reducible refine Guard_split (fun h => ?_) (fun h => ?_) | with_reducible refine IfB_split (fun h => ?_) (fun h => ?_))
    case refine_1 =>
      have hlt : i < N := by omega
      have e3 := inc_id hlt (show N ≤ 140737488355328 by omega)
      have hl : c.keys.length ≤ 140737488355328 := by omega
      have hp : ∀ x ∈ c.keys, WC Try.prog 53 (AV.str x :: [.ptr H.length 0, .ptr (H.length + 1) 0, .ptr H'.length 0]) (H' ++ [⟨[.int .i64 i], 0, .full⟩]) fun r J => r = .bool (decide ((shardL c.ten x N).1 = i)) ∧ J = H' ++ [⟨[.int .i64 i], 0, .full⟩] := fun x hx => shards1_spec c x N i (hks x hx) _ _ _ _ (get_app hb0' _) (get_app hb1 _) (by simp)
      have hstep := needL_step c N i
      have hge : ∀ b, v.blk = some b → H.length + 2 ≤ b := fun b hb => ho.ge hb
      have fin : ∀ (v2 : AV) (H2 : Heap), needB c N i = true → (OwnE (Enc.int .i64) (H.length + 2) H2 v2 (needL c N i ++ [(i : Int)])) → OwnE (Enc.int .i64) (H.length + 2) H2 v2 (needL c N (i + 1)) := fun v2 H2 h h2 => by rw [hstep, if_pos h]; exact h2
      have hnl := needL_len c N i
      by_cases hk : c.kind = 11
      · have hnb : needB c N i = true := by simp [needB, hk]
        repeat' (first | simp only [go_sem, Nat.reduceLT, Nat.reduceEqDiff, Nat.reduceAdd, Nat.reduceMul, Nat.reduceSub, Nat.reduceLeDiff, Int.reduceToNat, Int.reduceNeg, Int.reduceLT, Int.reduceLE, Int.reduceEq, reduceCtorEq, Int.natCast_zero, Int.natCast_one, Int.cast_ofNat_Int, Bool.not_not, false_eq_decide, true_eq_decide, hread0, hreadk, read_cons0, read_consk, astore_h0, astore_hk, hget0, hgetk, hset0, hsetk, hlen, hcat, Nat.add_assoc, Nat.add_zero, Nat.zero_add, List.length_append, and_true, true_and, AV.flat, hb0, get_app hb0, read_get hb0, read_app hb0, hv1, one_solid hv1, one_cells hv1, *, -hK, -hstep, -hnb] | with_reducible refine IfB_dec (fun h => ?_) (fun h => ?_) | with_reducible refine Guard_dec (fun h => ?_) (fun h => ?_) | with_reducible refine Guard_ndec (fun h => ?_) (fun h => ?_) | with_reducible refine Guard_not (fun h => ?_) (fun h => ?_) | with_reducible refine IfB_ndec (fun h => ?_) (fun h => ?_) | with_reducible refine IfB_not (fun h => ?_) (fun h => ?_) | with_reducible refine Guard_split (fun h => ?_) (fun h => ?_) | with_reducible refine IfB_split (fun h => ?_) (fun h => ?_))
        refine append_enc (E := Enc.int .i64) (ys := [(i : Int)]) (ho.keep0 (Keep.app none H' _)) se27 az3 td3 (by simp only [go_sem, Nat.reduceLT, Nat.reduceEqDiff, Nat.reduceAdd, Nat.reduceMul, Nat.reduceSub, Nat.reduceLeDiff, Int.reduceToNat, Int.reduceNeg, Int.reduceLT, Int.reduceLE, Int.reduceEq, reduceCtorEq, Int.natCast_zero, Int.natCast_one, Int.cast_ofNat_Int, Bool.not_not, false_eq_decide, true_eq_decide, hread0, hreadk, read_cons0, read_consk, astore_h0, astore_hk, hget0, hgetk, hset0, hsetk, hlen, hcat, Nat.add_assoc, Nat.add_zero, Nat.zero_add, List.length_append, and_true, true_and, AV.flat, asrc]; rfl) (by decide) (by show (_ + 1) * 9 ≤ _; omega) (by simp only [List.length_append, List.length_cons, List.length_nil]; omega) ?_
        intro v2 H2 o2 k2 hn2
        have hv2 := o2.one
        repeat' (first | simp only [go_sem, Nat.reduceLT, Nat.reduceEqDiff, Nat.reduceAdd, Nat.reduceMul, Nat.reduceSub, Nat.reduceLeDiff, Int.reduceToNat, Int.reduceNeg, Int.reduceLT, Int.reduceLE, Int.reduceEq, reduceCtorEq, Int.natCast_zero, Int.natCast_one, Int.cast_ofNat_Int, Bool.not_not, false_eq_decide, true_eq_decide, hread0, hreadk, read_cons0, read_consk, astore_h0, astore_hk, hget0, hgetk, hset0, hsetk, hlen, hcat, Nat.add_assoc, Nat.add_zero, Nat.zero_add, List.length_append, and_true, true_and, AV.flat, hv2, one_solid hv2, one_cells hv2, hv1, one_solid hv1, one_cells hv1, *, -hK, -hstep, -hnb] | with_reducible refine IfB_dec (fun h => ?_) (fun h => ?_) | with_reducible refine Guard_dec (fun h => ?_) (fun h => ?_) | with_reducible refine Guard_ndec (fun h => ?_) (fun h => ?_) | with_reducible refine Guard_not (fun h => ?_) (fun h => ?_) | with_reducible refine IfB_ndec (fun h => ?_) (fun h => ?_) | with_reducible refine IfB_not (fun h => ?_) (fun h => ?_) | with_reducible refine Guard_split (fun h => ?_) (fun h => ?_) | with_reducible refine IfB_split (fun h => ?_) (fun h => ?_))
        refine hR _ _ (by (repeat (first | exact hs | refine hA _ _ _ (by decide) ?_))) (N - (i + 1)) (by omega) ⟨i + 1, v2, rfl, by omega, by simp only [go_sem, Nat.reduceLT, Nat.reduceEqDiff, Nat.reduceAdd, Nat.reduceMul, Nat.reduceSub, Nat.reduceLeDiff, Int.reduceToNat, Int.reduceNeg, Int.reduceLT, Int.reduceLE, Int.reduceEq, reduceCtorEq], by simp only [go_sem, Nat.reduceLT, Nat.reduceEqDiff, Nat.reduceAdd, Nat.reduceMul, Nat.reduceSub, Nat.reduceLeDiff, Int.reduceToNat, Int.reduceNeg, Int.reduceLT, Int.reduceLE, Int.reduceEq, reduceCtorEq], fin _ _ (by rw [hnb]; try assumption) o2, (kk.trans (Keep.app none _ _)).via k2 (fun b hb => by have := hge b hb; simp; omega)⟩
      · have hnb : needB c N i = c.keys.any fun x => decide ((shardL c.ten x N).1 = i) := by simp [needB, hk]
        repeat' (first | simp only [go_sem, Nat.reduceLT, Nat.reduceEqDiff, Nat.reduceAdd, Nat.reduceMul, Nat.reduceSub, Nat.reduceLeDiff, Int.reduceToNat, Int.reduceNeg, Int.reduceLT, Int.reduceLE, Int.reduceEq, reduceCtorEq, Int.natCast_zero, Int.natCast_one, Int.cast_ofNat_Int, Bool.not_not, false_eq_decide, true_eq_decide, hread0, hreadk, read_cons0, read_consk, astore_h0, astore_hk, hget0, hgetk, hset0, hsetk, hlen, hcat, Nat.add_assoc, Nat.add_zero, Nat.zero_add, List.length_append, and_true, true_and, AV.flat, hb0, get_app hb0, read_get hb0, read_app hb0, hv1, one_solid hv1, one_cells hv1, *, -hK, -hstep, -hnb] | refine WC.call (sHasF_spec c.keys _ _ _ hl _ hp) ?_ | with_reducible refine IfB_dec (fun h => ?_) (fun h => ?_) | with_reducible refine Guard_dec (fun h => ?_) (fun h => ?_) | with_reducible refine Guard_ndec (fun h => ?_) (fun h => ?_) | with_reducible refine Guard_not (fun h => ?_) (fun h => ?_) | with_reducible refine IfB_ndec (fun h => ?_) (fun h => ?_) | with_reducible refine IfB_not (fun h => ?_) (fun h => ?_) | with_reducible refine Guard_split (fun h => ?_) (fun h => ?_) | with_reducible refine IfB_split (fun h => ?_) (fun h => ?_))
        rotate_left
        · refine hR _ _ (by (repeat (first | exact hs | refine hA _ _ _ (by decide) ?_))) (N - (i + 1)) (by omega) ⟨i + 1, v, rfl, by omega, by simp only [go_sem, Nat.reduceLT, Nat.reduceEqDiff, Nat.reduceAdd, Nat.reduceMul, Nat.reduceSub, Nat.reduceLeDiff, Int.reduceToNat, Int.reduceNeg, Int.reduceLT, Int.reduceLE, Int.reduceEq, reduceCtorEq], by simp only [go_sem, Nat.reduceLT, Nat.reduceEqDiff, Nat.reduceAdd, Nat.reduceMul, Nat.reduceSub, Nat.reduceLeDiff, Int.reduceToNat, Int.reduceNeg, Int.reduceLT, Int.reduceLE, Int.reduceEq, reduceCtorEq, f6], by rw [hstep, if_neg (by rw [hnb]; simp [*, -hR, -hK]), List.append_nil]; exact ho.keep0 (Keep.app _ _ _), kk.trans (Keep.app none _ _)⟩
        refine append_enc (E := Enc.int .i64) (ys := [(i : Int)]) (ho.keep0 (Keep.app none H' _)) se27 az3 td3 (by simp only [go_sem, Nat.reduceLT, Nat.reduceEqDiff, Nat.reduceAdd, Nat.reduceMul, Nat.reduceSub, Nat.reduceLeDiff, Int.reduceToNat, Int.reduceNeg, Int.reduceLT, Int.reduceLE, Int.reduceEq, reduceCtorEq, Int.natCast_zero, Int.natCast_one, Int.cast_ofNat_Int, Bool.not_not, false_eq_decide, true_eq_decide, hread0, hreadk, read_cons0, read_consk, astore_h0, astore_hk, hget0, hgetk, hset0, hsetk, hlen, hcat, Nat.add_assoc, Nat.add_zero, Nat.zero_add, List.length_append, and_true, true_and, AV.flat, asrc]; rfl) (by decide) (by show (_ + 1) * 9 ≤ _; omega) (by simp only [List.length_append, List.length_cons, List.length_nil]; omega) ?_
        intro v2 H2 o2 k2 hn2
        have hv2 := o2.one
        repeat' (first | simp only [go_sem, Nat.reduceLT, Nat.reduceEqDiff, Nat.reduceAdd, Nat.reduceMul, Nat.reduceSub, Nat.reduceLeDiff, Int.reduceToNat, Int.reduceNeg, Int.reduceLT, Int.reduceLE, Int.reduceEq, reduceCtorEq, Int.natCast_zero, Int.natCast_one, Int.cast_ofNat_Int, Bool.not_not, false_eq_decide, true_eq_decide, hread0, hreadk, read_cons0, read_consk, astore_h0, astore_hk, hget0, hgetk, hset0, hsetk, hlen, hcat, Nat.add_assoc, Nat.add_zero, Nat.zero_add, List.length_append, and_true, true_and, AV.flat, hv2, one_solid hv2, one_cells hv2, hv1, one_solid hv1, one_cells hv1, *, -hK, -hstep, -hnb] | with_reducible refine IfB_dec (fun h => ?_) (fun h => ?_) | with_reducible refine Guard_dec (fun h => ?_) (fun h => ?_) | with_reducible refine Guard_ndec (fun h => ?_) (fun h => ?_) | with_reducible refine Guard_not (fun h => ?_) (fun h => ?_) | with_reducible refine IfB_ndec (fun h => ?_) (fun h => ?_) | with_reducible refine IfB_not (fun h => ?_) (fun h => ?_) | with_reducible refine Guard_split (fun h => ?_) (fun h => ?_) | with_reducible refine IfB_split (fun h => ?_) (fun h => ?_))
        refine hR _ _ (by (repeat (first | exact hs | refine hA _ _ _ (by decide) ?_))) (N - (i + 1)) (by omega) ⟨i + 1, v2, rfl, by omega, by simp only [go_sem, Nat.reduceLT, Nat.reduceEqDiff, Nat.reduceAdd, Nat.reduceMul, Nat.reduceSub, Nat.reduceLeDiff, Int.reduceToNat, Int.reduceNeg, Int.reduceLT, Int.reduceLE, Int.reduceEq, reduceCtorEq], by simp only [go_sem, Nat.reduceLT, Nat.reduceEqDiff, Nat.reduceAdd, Nat.reduceMul, Nat.reduceSub, Nat.reduceLeDiff, Int.reduceToNat, Int.reduceNeg, Int.reduceLT, Int.reduceLE, Int.reduceEq, reduceCtorEq], fin _ _ (by rw [hnb]; try assumption) o2, (kk.trans (Keep.app none _ _)).via k2 (fun b hb => by have := hge b hb; simp; omega)⟩
    case refine_2 =>
      repeat' (first | simp only [go_sem, Nat.reduceLT, Nat.reduceEqDiff, Nat.reduceAdd, Nat.reduceMul, Nat.reduceSub, Nat.reduceLeDiff, Int.reduceToNat, Int.reduceNeg, Int.reduceLT, Int.reduceLE, Int.reduceEq, reduceCtorEq, Int.natCast_zero, Int.natCast_one, Int.cast_ofNat_Int, Bool.not_not, false_eq_decide, true_eq_decide, hread0, hreadk, read_cons0, read_consk, astore_h0, astore_hk, hget0, hgetk, hset0, hsetk, hlen, hcat, Nat.add_assoc, Nat.add_zero, Nat.zero_add, List.length_append, and_true, true_and, AV.flat, hv1, one_solid hv1, one_cells hv1, *, -hK] | with_reducible refine IfB_dec (fun h => ?_) (fun h => ?_) | with_reducible refine Guard_dec (fun h => ?_) (fun h => ?_) | with_reducible refine Guard_ndec (fun h => ?_) (fun h => ?_) | with_reducible refine Guard_not (fun h => ?_) (fun h => ?_) | with_reducible refine IfB_ndec (fun h => ?_) (fun h => ?_) | with_reducible refine IfB_not (fun h => ?_) (fun h => ?_) | with_reducible refine Guard_split (fun h => ?_) (fun h => ?_) | with_reducible refine IfB_split (fun h => ?_) (fun h => ?_))
      have hin : i = N := by omega
      refine hK _ _ ⟨v, by rw [h0], ?_, (Keep.app none H _).trans kk⟩
      rw [h1]
      rw [hin] at ho
      exact Own.mono ho (by omega)
def cmd0 : Cmd := ⟨0, 0, [], [], 0, 0, 0, 0⟩
def Cmd.with (c : Cmd) (l : List (List UInt8)) : Cmd := ⟨c.kind, c.ten, l, c.val, c.flags, c.for_, c.uniq, c.by_⟩
end Go.Proofs.Ytkmkhiipiflelaa

