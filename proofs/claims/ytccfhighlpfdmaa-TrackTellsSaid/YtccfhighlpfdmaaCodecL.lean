import Derived.Test.YtccfhighlpfdmaaPiR
/-! Numbers and texts as bytes: what is said, with no program in sight. -/
set_option linter.unusedVariables false
set_option linter.unusedSimpArgs false
namespace Go.Proofs.PI

def small (n : Nat) : List UInt8 := if h : n > 127 then UInt8.ofNat (n % 128 + 128) :: small (n / 128) else [UInt8.ofNat n]
termination_by n
theorem small_big {n : Nat} (h : n > 127) : small n = UInt8.ofNat (n % 128 + 128) :: small (n / 128) := by rw [small, dif_pos h]
theorem small_low {n : Nat} (h : n ≤ 127) : small n = [UInt8.ofNat n] := by rw [small, dif_neg (by omega)]
theorem small_len : ∀ (k n : Nat), n < 128 ^ (k + 1) → (small n).length ≤ k + 1
  | 0, n, h => by rw [small_low (by simpa using Nat.lt_succ_iff.1 h)]; simp
  | k + 1, n, h => by
    by_cases hn : n > 127
    · rw [small_big hn, List.length_cons]
      have := small_len k (n / 128) (by rw [Nat.pow_succ] at h; omega)
      omega
    · rw [small_low (by omega)]; simp
theorem small_len10 {n : Nat} (h : n < 2 ^ 64) : (small n).length ≤ 10 := small_len 9 n (by omega)
theorem small_pos (n : Nat) : 0 < (small n).length := by rw [small]; split <;> simp

/-- What is read from byte i on. -/
def rd : Nat → List UInt8 → Option (Nat × Nat)
  | _, [] => none
  | i, x :: l => if i = 9 ∧ x.toNat > 1 then none else if x.toNat < 128 then (if x.toNat = 0 ∧ i > 0 then none else some (x.toNat, 1)) else (rd (i + 1) l).map fun p => (p.1 * 128 + x.toNat % 128, p.2 + 1)
def textL (s : List UInt8) : List UInt8 := small s.length ++ s
/-! ### the way up and the way down -/
end Go.Proofs.PI

