import Derived.Test.YtccfhighlpfdmaaPiR
/-! Numbers and texts as bytes: what is said, with no program in sight. -/
set_option linter.unusedVariables false
set_option linter.unusedSimpArgs false
namespace Go.Proofs.PI

def small (n : Nat) : List UInt8 := if h : n > 127 then UInt8.ofNat (n % 128 + 128) :: small (n / 128) else [UInt8.ofNat n]
termination_by n
theorem small_big {n : Nat} (h : n > 127) : small n = UInt8.ofNat (n % 128 + 128) :: small (n / 128) := by rw [small, dif_pos h]
theorem small_low {n : Nat} (h : n ≤ 127) : small n = [UInt8.ofNat n] := by rw [small, dif_neg (by omega)]
theorem small_len : ∀ (k n : Nat), n < 128 ^ (k + 1) → (small n).length ≤ k + 1
  | 0, n, h => by rw [small_low (by simpa using Nat.lt_succ_iff.1 h)]; simp
  | k + 1, n, h => by
    by_cases hn : n > 127
    · rw [small_big hn, List.length_cons]
      have := small_len k (n / 128) (by rw [Nat.pow_succ] at h; omega)
      omega
    · rw [small_low (by omega)]; simp
theorem small_len10 {n : Nat} (h : n < 2 ^ 64) : (small n).length ≤ 10 := small_len 9 n (by omega)
theorem small_pos (n : Nat) : 0 < (small n).length := by rw [small]; split <;> simp

/-- What is read from byte i on. -/
def rd : Nat → List UInt8 → Option (Nat × Nat)
  | _, [] => none
  | i, x :: l => if i = 9 ∧ x.toNat > 1 then none else if x.toNat < 128 then (if x.toNat = 0 ∧ i > 0 then none else some (x.toNat, 1)) else (rd (i + 1) l).map fun p => (p.1 * 128 + x.toNat % 128, p.2 + 1)
theorem rd_len : ∀ (l : List UInt8) (i : Nat) {p : Nat × Nat}, rd i l = some p → 1 ≤ p.2 ∧ p.2 ≤ l.length
  | [], i, p, h => by simp [rd] at h
  | x :: l, i, p, h => by
    simp only [rd] at h
    split at h
    · cases h
    · split at h
      · split at h
        · cases h
        · simp only [Option.some.injEq] at h; subst h; simp
      · cases hr : rd (i + 1) l with
        | none => rw [hr] at h; cases h
        | some q =>
          rw [hr] at h
          simp only [Option.map_some, Option.some.injEq] at h; subst h
          have := rd_len l (i + 1) hr
          simp; omega
theorem rd_lt : ∀ (l : List UInt8) (i j : Nat) {p : Nat × Nat}, i + j = 9 → rd i l = some p → p.1 < 2 * 128 ^ j
  | [], i, j, p, _, h => by simp [rd] at h
  | x :: l, i, j, p, hij, h => by
    simp only [rd] at h
    split at h
    · cases h
    · rename_i h9
      split at h
      · split at h
        · cases h
        · rename_i h128 _
          simp only [Option.some.injEq] at h; subst h
          simp only
          cases j with
          | zero => simp; by_cases h1 : x.toNat > 1
                    · exact absurd ⟨by omega, h1⟩ h9
                    · omega
          | succ j => have : 0 < 128 ^ j := Nat.pow_pos (by omega); rw [Nat.pow_succ]; omega
      · rename_i h128
        cases hr : rd (i + 1) l with
        | none => rw [hr] at h; cases h
        | some q =>
          rw [hr] at h
          simp only [Option.map_some, Option.some.injEq] at h; subst h
          cases j with
          | zero => exact absurd ⟨by omega, by omega⟩ h9
          | succ j =>
            have := rd_lt l (i + 1) j (by omega) hr
            simp only
            rw [Nat.pow_succ]; omega
theorem rd_lt64 {l : List UInt8} {p : Nat × Nat} (h : rd 0 l = some p) : p.1 < 2 ^ 64 := by have := rd_lt l 0 9 rfl h; omega
theorem rd_small : ∀ (n i j : Nat) (r : List UInt8), i + j = 9 → n < 2 * 128 ^ j → (n = 0 → i = 0) → rd i (small n ++ r) = some (n, (small n).length) := by
  intro n
  induction n using Nat.strongRecOn with
  | _ n ih =>
    intro i j r hij hn h0
    by_cases hb : n > 127
    · rw [small_big hb, List.cons_append]
      have hx : (UInt8.ofNat (n % 128 + 128)).toNat = n % 128 + 128 := by simp; omega
      cases j with
      | zero => omega
      | succ j =>
        rw [rd, hx, if_neg (by omega), if_neg (by omega), ih (n / 128) (by omega) (i + 1) j r (by omega) (by rw [Nat.pow_succ] at hn; omega) (by omega)]
        simp; omega
    · rw [small_low (by omega), List.singleton_append]
      have hx : (UInt8.ofNat n).toNat = n := by simp; omega
      rw [rd, hx, if_neg, if_pos (by omega), if_neg (by omega)]
      · rfl
      · rintro ⟨rfl, h1⟩
        have : j = 0 := by omega
        subst this; omega
theorem rd_small0 {n : Nat} (h : n < 2 ^ 64) (r : List UInt8) : rd 0 (small n ++ r) = some (n, (small n).length) := rd_small n 0 9 r rfl (by omega) (fun _ => rfl)
theorem rd_pos : ∀ (l : List UInt8) (i : Nat) {p : Nat × Nat}, rd (i + 1) l = some p → p.1 > 0
  | [], i, p, h => by simp [rd] at h
  | x :: l, i, p, h => by
    simp only [rd] at h
    split at h
    · cases h
    · split at h
      · split at h
        · cases h
        · simp only [Option.some.injEq] at h; subst h; simp only; omega
      · cases hr : rd (i + 1 + 1) l with
        | none => rw [hr] at h; cases h
        | some q =>
          have ih := rd_pos l (i + 1) hr
          rw [hr] at h
          simp only [Option.map_some, Option.some.injEq] at h; subst h
          simp only; omega
/-- What is read was written so. -/
theorem small_rd : ∀ (l : List UInt8) (i : Nat) {p : Nat × Nat}, rd i l = some p → l.take p.2 = small p.1
  | [], i, p, h => by simp [rd] at h
  | x :: l, i, p, h => by
    simp only [rd] at h
    split at h
    · cases h
    · split at h
      · split at h
        · cases h
        · simp only [Option.some.injEq] at h; subst h
          rw [small_low (by simp only; omega)]; simp
      · rename_i h128
        cases hr : rd (i + 1) l with
        | none => rw [hr] at h; cases h
        | some q =>
          have ih := small_rd l (i + 1) hr
          have hpos := rd_pos l i hr
          rw [hr] at h
          simp only [Option.map_some, Option.some.injEq] at h; subst h
          have hlt := x.toNat_lt
          have e1 : small (q.1 * 128 + x.toNat % 128) = UInt8.ofNat ((q.1 * 128 + x.toNat % 128) % 128 + 128) :: small ((q.1 * 128 + x.toNat % 128) / 128) := small_big (by omega)
          have e2 : UInt8.ofNat ((q.1 * 128 + x.toNat % 128) % 128 + 128) = x := by
            apply UInt8.toNat.inj; simp; omega
          have e3 : (q.1 * 128 + x.toNat % 128) / 128 = q.1 := by omega
          simp only
          rw [List.take_succ_cons, ih, e1, e2, e3]

/-- A text cut off: it, and the rest. -/
def cutL (l : List UInt8) : Option (List UInt8 × List UInt8) := match rd 0 l with
  | some (n, k) => if n ≤ l.length - k then some ((l.drop k).take n, l.drop (k + n)) else none
  | none => none
def textL (s : List UInt8) : List UInt8 := small s.length ++ s
theorem cutL_text {s r : List UInt8} (h : s.length < 2 ^ 64) : cutL (textL s ++ r) = some (s, r) := by
  unfold cutL textL
  rw [List.append_assoc, rd_small0 h]
  simp only
  simp [List.drop_append, List.drop_eq_nil_of_le]
theorem cutL_some {l s r : List UInt8} (h : cutL l = some (s, r)) : l = textL s ++ r := by
  unfold cutL at h
  cases hr : rd 0 l with
  | none => rw [hr] at h; cases h
  | some p =>
    obtain ⟨n, k⟩ := p
    rw [hr] at h
    simp only at h
    split at h
    · rename_i hn
      simp only [Option.some.injEq, Prod.mk.injEq] at h
      obtain ⟨rfl, rfl⟩ := h
      have h1 := small_rd l 0 hr
      have h2 := rd_len l 0 hr
      simp only at h1 h2
      have h3 : ((l.drop k).take n).length = n := by simp; omega
      unfold textL
      rw [h3, ← h1, List.append_assoc]
      have : l.drop (k + n) = (l.drop k).drop n := by rw [List.drop_drop]
      rw [this, List.take_append_drop, List.take_append_drop]
    · cases h

/-! ### the way up and the way down -/
/-- Read up: with the first i bytes in hand. -/
def rdUp (l : List UInt8) (i acc : Nat) : Option (Nat × Nat) := (rd i (l.drop i)).map fun p => (acc + p.1 * 128 ^ i, i + p.2)
theorem rdUp_zero (l : List UInt8) : rdUp l 0 0 = rd 0 l := by
  unfold rdUp
  rw [List.drop_zero]
  cases rd 0 l <;> simp
theorem rdUp_end {l : List UInt8} {i : Nat} (h : l.length ≤ i) (acc : Nat) : rdUp l i acc = none := by
  rw [rdUp, List.drop_eq_nil_of_le h]; simp [rd]
theorem rdUp_step {l : List UInt8} {i : Nat} (h : i < l.length) (acc : Nat) :
    rdUp l i acc = if i = 9 ∧ l[i].toNat > 1 then none else if l[i].toNat < 128 then (if l[i].toNat = 0 ∧ i > 0 then none else some (acc + l[i].toNat * 128 ^ i, i + 1)) else rdUp l (i + 1) (acc + l[i].toNat % 128 * 128 ^ i) := by
  unfold rdUp
  rw [List.drop_eq_getElem_cons h]
  simp only [rd]
  split
  · simp
  · split
    · split
      · simp
      · simp
    · cases rd (i + 1) (l.drop (i + 1)) with
      | none => simp
      | some p =>
        simp only [Option.map_some, Option.some.injEq, Prod.mk.injEq]
        constructor
        · rw [Nat.pow_succ, Nat.add_mul, Nat.mul_assoc, Nat.mul_comm 128]; omega
        · omega
theorem rd_skip {l : List UInt8} {i : Nat} (h : i < l.length) (hx : 128 ≤ l[i].toNat) (h9 : i ≠ 9) :
    rd i (l.drop i) = (rd (i + 1) (l.drop (i + 1))).map fun p => (p.1 * 128 + l[i].toNat % 128, p.2 + 1) := by
  rw [List.drop_eq_getElem_cons h]
  simp only [rd]
  rw [if_neg (by omega), if_neg (by omega)]
theorem rd_here {l : List UInt8} {i : Nat} (h : i < l.length) (hx : l[i].toNat < 128) : rd i (l.drop i) = if i = 9 ∧ l[i].toNat > 1 then none else if l[i].toNat = 0 ∧ i > 0 then none else some (l[i].toNat, 1) := by
  rw [List.drop_eq_getElem_cons h]
  simp only [rd]
  rw [if_pos hx]
theorem rd_none {l : List UInt8} : ∀ (k : Nat), (∀ j (h : j < l.length), j < k → 128 ≤ l[j].toNat) → k ≤ l.length → k ≤ 9 → rd k (l.drop k) = none → rd 0 l = none
  | 0, _, _, _, h => by simpa using h
  | k + 1, hb, hl, h9, h => by
    refine rd_none k (fun j hj hk => hb j hj (by omega)) (by omega) (by omega) ?_
    rw [rd_skip (by omega) (hb k (by omega) (by omega)) (by omega), h]; rfl
theorem rd_nine {l : List UInt8} (h : 9 < l.length) (hx : l[9].toNat > 1) : rd 9 (l.drop 9) = none := by
  rw [List.drop_eq_getElem_cons h]
  simp only [rd]
  rw [if_pos ⟨trivial, hx⟩]
end Go.Proofs.PI
