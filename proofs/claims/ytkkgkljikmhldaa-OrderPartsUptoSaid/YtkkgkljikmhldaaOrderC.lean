import Derived.Test.YtkkgkljikmhldaaOrderB
set_option linter.unusedSimpArgs false
set_option linter.unusedVariables false
set_option maxRecDepth 100000
set_option maxHeartbeats 2000000
namespace Go.Proofs.Ytkkgkljikmhldaa
open Go Go.Proofs Go.Proofs.PI
def putsP (k : Int) : Prop := 2 ≤ k ∧ k ≤ 5
instance (k : Int) : Decidable (putsP k) := by unfold putsP; infer_instance
def keysB (k : Int) (l : List (List UInt8)) : Bool := decide (loK k ≤ l.length ∧ l.length ≤ hiK k) && kGo [] l
def restB (c : Cmd) : Bool := decide ((c.val.length ≤ 512 ∧ (c.val.length = 0 ∨ (2 ≤ c.kind ∧ c.kind ≤ 5) ∨ c.kind = 8)) ∧ (0 ≤ c.for_ ∧ c.for_ ≤ 1099511627776 ∧ (c.for_ = 0 ∨ (2 ≤ c.kind ∧ c.kind ≤ 5) ∨ c.kind = 9)) ∧ (c.flags = 0 ∨ (2 ≤ c.kind ∧ c.kind ≤ 5)) ∧ (c.uniq = 0 ∨ c.kind = 5) ∧ (c.by_ = 0 ∨ c.kind = 6 ∨ c.kind = 7))
/-- Which commands may be. -/
def cmdB (c : Cmd) : Bool := decide (1 ≤ c.kind ∧ c.kind ≤ 11 ∧ 0 ≤ c.ten ∧ c.ten < 4) && keysB c.kind c.keys && restB c
theorem has_facts (k : Int) : (hasL k = 0 ↔ ¬ (1 ≤ k ∧ k ≤ 11)) ∧ (band (hasL k) 2 = 0 ↔ ¬ (putsP k ∨ k = 8)) ∧ (band (hasL k) 4 = 0 ↔ ¬ (putsP k ∨ k = 9)) ∧ (band (hasL k) 8 = 0 ↔ ¬ putsP k) ∧ (band (hasL k) 16 = 0 ↔ ¬ k = 5) ∧ (band (hasL k) 32 = 0 ↔ ¬ (k = 6 ∨ k = 7)) ∧
    (1 ≤ k ∧ k ≤ 11 → (band (hasL k) 1 ≠ 0 ∧ loK k = 1 ∧ hiK k = 8) ∨ (band (hasL k) 1 = 0 ∧ band (hasL k) 64 = 0 ∧ loK k = 1 ∧ hiK k = 1) ∨ (band (hasL k) 1 = 0 ∧ band (hasL k) 64 ≠ 0 ∧ loK k = 0 ∧ hiK k = 0)) := by
  by_cases h : 1 ≤ k ∧ k ≤ 11
  · have : k = 1 ∨ k = 2 ∨ k = 3 ∨ k = 4 ∨ k = 5 ∨ k = 6 ∨ k = 7 ∨ k = 8 ∨ k = 9 ∨ k = 10 ∨ k = 11 := by omega
    rcases this with rfl | rfl | rfl | rfl | rfl | rfl | rfl | rfl | rfl | rfl | rfl <;> decide
  · have h0 : hasL k = 0 := by
      unfold hasL
      rw [if_neg (by omega), if_neg (by omega), if_neg (by omega), if_neg (by omega), if_neg (by omega), if_neg (by omega), if_neg (by omega)]
    have hp : ¬ putsP k := by unfold putsP; omega
    rw [h0]
    refine ⟨by simp [h], ?_, ?_, ?_, ?_, ?_, fun q => absurd q h⟩
    · simp only [hp, false_or]; exact ⟨fun _ => by omega, fun _ => by decide⟩
    · simp only [hp, false_or]; exact ⟨fun _ => by omega, fun _ => by decide⟩
    · exact ⟨fun _ => hp, fun _ => by decide⟩
    · exact ⟨fun _ => by omega, fun _ => by decide⟩
    · exact ⟨fun _ => by omega, fun _ => by decide⟩
theorem ordMay_spec (c : Cmd) (hn : c.keys.length ≤ 140737488355328) (H : Heap) : WC Try.prog 21 [c.av] H fun r H' => r = .bool (cmdB c) ∧ H' = H := by
  refine WC_val fun K hK => ?_
  obtain ⟨f0, f2, f4, f8, f16, f32, fk⟩ := has_facts c.kind
  refine WC_of_body hT Try.func21 rfl (by simp [Try.f21]) (by simp [Try.f21]) (wx_sound hT _ ?_)
  simp only [Try.f21]
  by_cases hk : 1 ≤ c.kind ∧ c.kind ≤ 11
  · have hks := fun J => ordKeyed_spec c (hasL c.kind) _ _ hn (fk hk) J
    have hh0 : ¬ hasL c.kind = 0 := by rw [f0]; simp [hk]
    have hh := fun J => has_spec c.kind J
    clear fk f0
    generalize hasL c.kind = h at *
    have hkb : (decide (loK c.kind ≤ ↑c.keys.length ∧ ↑c.keys.length ≤ hiK c.kind) && kGo [] c.keys) = keysB c.kind c.keys := rfl
    rw [hkb] at hks
    have hcm : cmdB c = (decide (1 ≤ c.kind ∧ c.kind ≤ 11 ∧ 0 ≤ c.ten ∧ c.ten < 4) && keysB c.kind c.keys && restB c) := rfl
    have hv : (c.val = []) = (c.val.length = 0) := by rw [List.length_eq_zero_iff]
    clear hkb
    generalize keysB c.kind c.keys = q at *
    unfold restB at hcm
    simp only [putsP] at f2 f4 f8
    cases q
    all_goals
      have bf := band_fold
      simp only [IntKind.bits] at bf
      repeat' (first | simp only [go_sem, Nat.reduceLT, Nat.reduceEqDiff, Nat.reduceAdd, Nat.reduceMul, Nat.reduceSub, Nat.reduceLeDiff, Int.reduceToNat, Int.reduceNeg, Int.reduceLT, Int.reduceLE, Int.reduceEq, reduceCtorEq, Int.natCast_zero, Int.natCast_one, Int.cast_ofNat_Int, Bool.not_not, false_eq_decide, true_eq_decide, hread0, hreadk, read_cons0, read_consk, astore_h0, astore_hk, hget0, hgetk, hset0, hsetk, hlen, hcat, Nat.add_assoc, Nat.add_zero, Nat.zero_add, List.length_append, and_true, true_and, AV.flat, Cmd.av, bf, *, -hK, -hks, -f2, -f4, -f8, -f16, -f32, -hk, -hcm, -hh] | refine WC.call (hh _) ?_ | refine WC.call (hks _) ?_ | with_reducible refine IfB_dec (fun h => ?_) (fun h => ?_) | with_reducible refine Guard_dec (fun h => ?_) (fun h => ?_) | with_reducible refine Guard_ndec (fun h => ?_) (fun h => ?_) | with_reducible refine Guard_not (fun h => ?_) (fun h => ?_) | with_reducible refine IfB_ndec (fun h => ?_) (fun h => ?_) | with_reducible refine IfB_not (fun h => ?_) (fun h => ?_) | with_reducible refine Guard_split (fun h => ?_) (fun h => ?_) | with_reducible refine IfB_split (fun h => ?_) (fun h => ?_))
      all_goals
        refine hK _ _ (Thaw.of_eq ?_ rfl) (Keep.app _ _ _)
        congr 1
        rw [hcm, Bool.eq_iff_iff]
        clear hK hh hks hcm hv
        simp only [f2, f4, f8, f16, f32] at *
        clear f2 f4 f8 f16 f32
        simp only [Bool.and_eq_true, Bool.false_eq_true, decide_eq_true_eq, and_true, true_and, false_and, and_false, false_iff, true_iff, not_false_eq_true]
        try omega
  · have h0 : hasL c.kind = 0 := by rw [f0]; exact hk
    repeat' (first | simp only [go_sem, Nat.reduceLT, Nat.reduceEqDiff, Nat.reduceAdd, Nat.reduceMul, Nat.reduceSub, Nat.reduceLeDiff, Int.reduceToNat, Int.reduceNeg, Int.reduceLT, Int.reduceLE, Int.reduceEq, reduceCtorEq, Int.natCast_zero, Int.natCast_one, Int.cast_ofNat_Int, Bool.not_not, false_eq_decide, true_eq_decide, hread0, hreadk, read_cons0, read_consk, astore_h0, astore_hk, hget0, hgetk, hset0, hsetk, hlen, hcat, Nat.add_assoc, Nat.add_zero, Nat.zero_add, List.length_append, and_true, true_and, AV.flat, Cmd.av, *, -hK, -hk] | refine WC.call (has_spec c.kind _) ?_ | with_reducible refine IfB_dec (fun h => ?_) (fun h => ?_) | with_reducible refine Guard_dec (fun h => ?_) (fun h => ?_) | with_reducible refine Guard_ndec (fun h => ?_) (fun h => ?_) | with_reducible refine Guard_not (fun h => ?_) (fun h => ?_) | with_reducible refine IfB_ndec (fun h => ?_) (fun h => ?_) | with_reducible refine IfB_not (fun h => ?_) (fun h => ?_) | with_reducible refine Guard_split (fun h => ?_) (fun h => ?_) | with_reducible refine IfB_split (fun h => ?_) (fun h => ?_))
    refine hK _ _ (Thaw.of_eq ?_ rfl) (Keep.app _ _ _)
    rw [cmdB, decide_eq_false (by omega)]
    simp
end Go.Proofs.Ytkkgkljikmhldaa
