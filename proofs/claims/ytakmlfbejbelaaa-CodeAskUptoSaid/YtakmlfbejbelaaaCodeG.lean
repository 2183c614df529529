import Derived.Test.YtakmlfbejbelaaaCodecL
import Derived.Test.YtakmlfbejbelaaaCodeTd
import Derived.Test.YtakmlfbejbelaaaPiSem
set_option linter.unusedSimpArgs false
set_option linter.unusedVariables false
set_option maxRecDepth 100000
namespace Go.Proofs.Ytakmlfbejbelaaa
open Go Go.Proofs Go.Proofs.PI
theorem i64_id (x : Int) (h0 : -9223372036854775808 ≤ x) (h1 : x < 9223372036854775808) : IntKind.i64.wrap x = x := by
  rw [IntKind.wrap_i64]; omega
theorem inc_id {i n : Nat} (h : i < n) (hn : n ≤ 140737488355328) : IntKind.i64.wrap ((i : Int) + 1) = ((i + 1 : Nat) : Int) := by
  rw [IntKind.wrap_i64]; omega
/-! ### numbers and texts as bytes (over values) -/
theorem u8_cells (x : UInt8) : Enc.u8.cells x = [.int .u8 x.toNat] := rfl
theorem Thaw.ob {m : Nat} {H : Heap} {v : AV} {l : List UInt8} (h : Ob m H v l) : Thaw m H v (Enc.u8.lst l) := by
  have h' : OwnE Enc.u8 m H v l := by unfold OwnE; rw [Enc.u8_row]; exact h
  exact h'.thaw (by decide)
theorem or128 (y : Nat) : IntKind.u8.wrap (BitVec.ofInt IntKind.u8.bits (IntKind.u8.wrap y) ||| BitVec.ofInt IntKind.u8.bits 128).toNat = (UInt8.ofNat (y % 128 + 128)).toNat := by
  have h1 : (UInt8.ofNat (y % 128 + 128)).toNat = y % 128 + 128 := by simp; omega
  rw [h1, IntKind.wrap_u8, IntKind.wrap_u8]
  have h2 : (BitVec.ofInt IntKind.u8.bits ((y : Int) % 256) ||| BitVec.ofInt IntKind.u8.bits 128).toNat = (y % 256) ||| 128 := by
    rw [BitVec.toNat_or, BitVec.toNat_ofInt, BitVec.toNat_ofInt]
    congr 1
    simp only [IntKind.bits]; omega
  rw [h2]
  have h3 : (y % 256) ||| 128 = y % 128 + 128 := by
    have : ∀ z < 256, z ||| 128 = z % 128 + 128 := by decide
    rw [this _ (by omega)]; omega
  rw [h3]; omega
theorem wrap8 (y : Nat) (h : y ≤ 127) : IntKind.u8.wrap y = (UInt8.ofNat y).toNat := by
  rw [IntKind.wrap_u8]; simp
theorem shr7 (y : Nat) : (y : Int).fdiv (2 ^ min (Int.toNat 7) IntKind.u64.bits) = ((y / 128 : Nat) : Int) := by
  rw [Int.fdiv_eq_ediv_of_nonneg _ (by exact Int.pow_nonneg (by omega))]
  simp [IntKind.bits]
theorem small_spec (x : Nat) (hx : x < 2 ^ 64) (H : Heap) : WC Try.prog 20 [.int .u64 x] H fun r H' => Ob H.length H' r (small x) ∧ Keep none H H' := by
  refine WC_of_K fun K hK => ?_
  refine WC_of_body hT Try.func20 rfl (by simp [Try.f20]) (by simp [Try.f20]) (wx_sound hT _ ?_)
  simp only [Try.f20]
  simp only [go_sem, Nat.reduceLT, Nat.reduceEqDiff, Nat.reduceAdd, Nat.reduceMul, Nat.reduceSub, Nat.reduceLeDiff, Int.reduceToNat, Int.reduceNeg, Int.reduceLT, Int.reduceLE, Int.reduceEq, reduceCtorEq]
  refine WX_loop (fun m fr' H' => ∃ (y : Nat) (v : AV) (pre : List UInt8), m = y ∧ fr'.get 0 = .int .u64 y ∧ fr'.get 3 = v ∧ Ob H.length H' v pre ∧ Keep none H H' ∧ y < 2 ^ 64 ∧ pre ++ small y = small x) x ⟨x, .nils, [], rfl, ?_, ?_, Ob.nils _ _, Keep.refl _ _, hx, rfl⟩ ?_
  · simp only [go_sem, Nat.reduceLT, Nat.reduceEqDiff, Nat.reduceAdd, Nat.reduceMul, Nat.reduceSub, Nat.reduceLeDiff, Int.reduceToNat, Int.reduceNeg, Int.reduceLT, Int.reduceLE, Int.reduceEq, reduceCtorEq]
  · simp only [go_sem, Nat.reduceLT, Nat.reduceEqDiff, Nat.reduceAdd, Nat.reduceMul, Nat.reduceSub, Nat.reduceLeDiff, Int.reduceToNat, Int.reduceNeg, Int.reduceLT, Int.reduceLE, Int.reduceEq, reduceCtorEq]
  · rintro m fr' H' ⟨y, v, pre, rfl, h0, h3, hown, hkeep, hy, hpre⟩
    have hlen : pre.length + (small m).length ≤ 10 := by have := small_len10 hx; rw [← hpre, List.length_append] at this; exact this
    have hpos := small_pos m
    refine wx_sound hT _ ?_
    simp only [go_sem, Nat.reduceLT, Nat.reduceEqDiff, Nat.reduceAdd, Nat.reduceMul, Nat.reduceSub, Nat.reduceLeDiff, Int.reduceToNat, Int.reduceNeg, Int.reduceLT, Int.reduceLE, Int.reduceEq, reduceCtorEq, h0]
    refine IfB_dec (fun hgt => ?_) (fun hle => ?_)
    · simp only [go_sem, Nat.reduceLT, Nat.reduceEqDiff, Nat.reduceAdd, Nat.reduceMul, Nat.reduceSub, Nat.reduceLeDiff, Int.reduceToNat, Int.reduceNeg, Int.reduceLT, Int.reduceLE, Int.reduceEq, reduceCtorEq, h0, h3]
      have o8 := or128 m
      simp only [IntKind.bits] at o8 ⊢
      rw [o8]
      refine append_ob (r := [UInt8.ofNat (m % 128 + 128)]) (hown.keep0 (Keep.snoc none _ _)) se30 az5 td5 rfl ((snoc_bs _ rfl rfl rfl).src tk30) (by simp; omega) (by have := hkeep.len; simp; omega) ?_
      intro v' H'' hown' hkeep' hfresh
      simp only [go_sem, Nat.reduceLT, Nat.reduceEqDiff, Nat.reduceAdd, Nat.reduceMul, Nat.reduceSub, Nat.reduceLeDiff, Int.reduceToNat, Int.reduceNeg, Int.reduceLT, Int.reduceLE, Int.reduceEq, reduceCtorEq, h0, h3, shr7]
      have hs : small m = UInt8.ofNat (m % 128 + 128) :: small (m / 128) := small_big (by omega)
      refine ⟨m / 128, by omega, m / 128, v', pre ++ [UInt8.ofNat (m % 128 + 128)], rfl, ?_, by simp only [go_sem, Nat.reduceLT, Nat.reduceEqDiff, Nat.reduceAdd, Nat.reduceMul, Nat.reduceSub, Nat.reduceLeDiff, Int.reduceToNat, Int.reduceNeg, Int.reduceLT, Int.reduceLE, Int.reduceEq, reduceCtorEq], hown', ?_, by omega, by rw [← hpre, hs]; simp⟩
      · simp only [go_sem, Nat.reduceLT, Nat.reduceEqDiff, Nat.reduceAdd, Nat.reduceMul, Nat.reduceSub, Nat.reduceLeDiff, Int.reduceToNat, Int.reduceNeg, Int.reduceLT, Int.reduceLE, Int.reduceEq, reduceCtorEq]
        exact congrArg _ (shr7 m)
      exact Own.new hown (hkeep.trans (Keep.snoc none _ _)) hkeep'
    · simp only [go_sem, Nat.reduceLT, Nat.reduceEqDiff, Nat.reduceAdd, Nat.reduceMul, Nat.reduceSub, Nat.reduceLeDiff, Int.reduceToNat, Int.reduceNeg, Int.reduceLT, Int.reduceLE, Int.reduceEq, reduceCtorEq, h0, h3]
      rw [wrap8 m (by omega)]
      refine append_ob (r := [UInt8.ofNat m]) (hown.keep0 (Keep.snoc none _ _)) se30 az5 td5 rfl ((snoc_bs _ rfl rfl rfl).src tk30) (by simp; omega) (by have := hkeep.len; simp; omega) ?_
      intro v' H'' hown' hkeep' hfresh
      simp only [go_sem, Nat.reduceLT, Nat.reduceEqDiff, Nat.reduceAdd, Nat.reduceMul, Nat.reduceSub, Nat.reduceLeDiff, Int.reduceToNat, Int.reduceNeg, Int.reduceLT, Int.reduceLE, Int.reduceEq, reduceCtorEq, h0, h3]
      rw [← small_low (by omega), hpre] at hown'
      exact hK _ _ ⟨hown', Own.new hown (hkeep.trans (Keep.snoc none _ _)) hkeep'⟩

theorem smallP (n : Int) (h0 : 0 ≤ n) (h1 : n < 18446744073709551616) (H : Heap) : WC Try.prog 20 [.int .u64 n] H fun r H' => r = Enc.u8.lst (small n.toNat) ∧ H' = H := by
  have := small_spec n.toNat (by omega) H
  rw [show ((n.toNat : Nat) : Int) = n by omega] at this
  exact WC_froze (Q := fun r => r = _) (this.mono fun r H' ⟨h1, h2⟩ => ⟨_, Thaw.ob h1, h2, rfl⟩)
theorem orAcc (x : UInt8) (i acc : Nat) (hi : i ≤ 9) (hacc : acc < 128 ^ i) (hno : ¬ (i = 9 ∧ x.toNat > 1)) :
    IntKind.u64.wrap (BitVec.ofInt IntKind.u64.bits acc ||| BitVec.ofInt IntKind.u64.bits (IntKind.u64.wrap (IntKind.u64.wrap (IntKind.u8.wrap (BitVec.ofInt IntKind.u8.bits x.toNat &&& BitVec.ofInt IntKind.u8.bits 127).toNat) * 2 ^ min (7 * (i : Int)).toNat IntKind.u64.bits))).toNat
      = ((acc + x.toNat % 128 * 128 ^ i : Nat) : Int) := by
  have hx := x.toNat_lt
  have h7 : (2 : Nat) ^ (7 * i) = 128 ^ i := by rw [Nat.pow_mul]
  have e1 : (BitVec.ofInt IntKind.u8.bits x.toNat &&& BitVec.ofInt IntKind.u8.bits 127).toNat = x.toNat % 128 := by
    rw [BitVec.toNat_and, BitVec.toNat_ofInt, BitVec.toNat_ofInt]
    have e : ∀ z < 256, z &&& 127 = z % 128 := by decide
    simp only [IntKind.bits]
    have e2 : ((x.toNat : Int) % ((2 ^ 8 : Nat) : Int)).toNat = x.toNat := by omega
    rw [e2]; exact e _ (by omega)
  have e2 : IntKind.u64.wrap (IntKind.u8.wrap ((x.toNat % 128 : Nat) : Int)) = ((x.toNat % 128 : Nat) : Int) := by
    rw [IntKind.wrap_u8, IntKind.wrap_u64]; omega
  have e3 : min (7 * (i : Int)).toNat IntKind.u64.bits = 7 * i := by simp only [IntKind.bits]; omega
  have hbound : acc + x.toNat % 128 * 128 ^ i < 2 ^ 64 := by
    have hm : x.toNat % 128 * 128 ^ i ≤ 127 * 128 ^ i := Nat.mul_le_mul_right _ (by omega)
    by_cases h9 : i = 9
    · subst h9
      have : x.toNat % 128 * 128 ^ 9 ≤ 1 * 128 ^ 9 := Nat.mul_le_mul_right _ (by omega)
      omega
    · have : 128 ^ i ≤ 128 ^ 8 := Nat.pow_le_pow_right (by omega) (by omega)
      omega
  have e4 : ((2 : Int) ^ (7 * i)) = ((128 ^ i : Nat) : Int) := by rw [← h7]; simp
  rw [e1, e2, e3, e4]
  have e5 : (((x.toNat % 128 : Nat) : Int) * ((128 ^ i : Nat) : Int)) = ((x.toNat % 128 * 128 ^ i : Nat) : Int) := by rw [Int.natCast_mul]
  rw [e5]
  have e6 : IntKind.u64.wrap ((x.toNat % 128 * 128 ^ i : Nat) : Int) = ((x.toNat % 128 * 128 ^ i : Nat) : Int) := by rw [IntKind.wrap_u64]; omega
  rw [e6]
  have e7 : (BitVec.ofInt IntKind.u64.bits (acc : Int) ||| BitVec.ofInt IntKind.u64.bits ((x.toNat % 128 * 128 ^ i : Nat) : Int)).toNat = acc + x.toNat % 128 * 128 ^ i := by
    rw [BitVec.toNat_or, BitVec.toNat_ofInt, BitVec.toNat_ofInt]
    simp only [IntKind.bits]
    have a1 : ((acc : Int) % ((2 ^ 64 : Nat) : Int)).toNat = acc := by omega
    have a2 : (((x.toNat % 128 * 128 ^ i : Nat) : Int) % ((2 ^ 64 : Nat) : Int)).toNat = x.toNat % 128 * 128 ^ i := by omega
    rw [a1, a2]
    have := Nat.two_pow_add_eq_or_of_lt (i := 7 * i) (b := acc) (by rw [h7]; exact hacc) (x.toNat % 128)
    rw [h7, Nat.mul_comm] at this
    rw [Nat.or_comm, ← this, Nat.add_comm]
  rw [e7, IntKind.wrap_u64]; omega
def rdV : Option (Nat × Nat) → AV
  | some p => .tup [.int .u64 p.1, .int .i64 p.2, .int .i64 0]
  | none => .tup [.int .u64 0, .int .i64 0, .int .i64 8]
theorem readP (l : List UInt8) (hl : l.length ≤ 140737488355328) (H : Heap) : WC Try.prog 16 [Enc.u8.lst l] H fun r H' => r = rdV (rd 0 l) ∧ H' = H := by
  refine WC_of_K fun K hK => ?_
  refine WC_of_body hT Try.func16 rfl (by simp [Try.f16]) (by simp [Try.f16]) (wx_sound hT _ ?_)
  simp only [Try.f16]
  simp only [go_sem, Nat.reduceLT, Nat.reduceEqDiff, Nat.reduceAdd, Nat.reduceMul, Nat.reduceSub, Nat.reduceLeDiff, Int.reduceToNat, Int.reduceNeg, Int.reduceLT, Int.reduceLE, Int.reduceEq, reduceCtorEq]
  refine WX_loop (fun m fr' H' => ∃ i acc : Nat, m = l.length - i ∧ i ≤ 9 ∧ fr'.get 8 = Enc.u8.lst l ∧ fr'.get 9 = .int .i64 l.length ∧ fr'.get 10 = .int .i64 i ∧ fr'.get 5 = .int .u64 acc ∧ acc < 128 ^ i ∧ rd 0 l = rdUp l i acc ∧ H' = H) l.length ⟨0, 0, rfl, by omega, ?_, ?_, ?_, ?_, by omega, (rdUp_zero l).symm, rfl⟩ ?_
  · simp only [go_sem, Nat.reduceLT, Nat.reduceEqDiff, Nat.reduceAdd, Nat.reduceMul, Nat.reduceSub, Nat.reduceLeDiff, Int.reduceToNat, Int.reduceNeg, Int.reduceLT, Int.reduceLE, Int.reduceEq, reduceCtorEq]
  · simp only [go_sem, Nat.reduceLT, Nat.reduceEqDiff, Nat.reduceAdd, Nat.reduceMul, Nat.reduceSub, Nat.reduceLeDiff, Int.reduceToNat, Int.reduceNeg, Int.reduceLT, Int.reduceLE, Int.reduceEq, reduceCtorEq]
  · simp only [go_sem, Nat.reduceLT, Nat.reduceEqDiff, Nat.reduceAdd, Nat.reduceMul, Nat.reduceSub, Nat.reduceLeDiff, Int.reduceToNat, Int.reduceNeg, Int.reduceLT, Int.reduceLE, Int.reduceEq, reduceCtorEq]
    rfl
  · simp only [go_sem, Nat.reduceLT, Nat.reduceEqDiff, Nat.reduceAdd, Nat.reduceMul, Nat.reduceSub, Nat.reduceLeDiff, Int.reduceToNat, Int.reduceNeg, Int.reduceLT, Int.reduceLE, Int.reduceEq, reduceCtorEq]
    rfl
  · rintro m fr' H' ⟨i, acc, rfl, hi, h8, h9, h10, h5, hacc, hrd, rfl⟩
    refine wx_sound hT _ ?_
    simp only [go_sem, Nat.reduceLT, Nat.reduceEqDiff, Nat.reduceAdd, Nat.reduceMul, Nat.reduceSub, Nat.reduceLeDiff, Int.reduceToNat, Int.reduceNeg, Int.reduceLT, Int.reduceLE, Int.reduceEq, reduceCtorEq, h8, h9, h10, h5]
    refine IfB_dec (fun hlt => ?_) (fun hge => ?_)
    · have hlt' : i < l.length := by omega
      have e1 := at_enc (E := Enc.u8) (T := T) (xs := l) se30 hlt' (k := .i64) (z := i) rfl
      simp only [go_sem, Nat.reduceLT, Nat.reduceEqDiff, Nat.reduceAdd, Nat.reduceMul, Nat.reduceSub, Nat.reduceLeDiff, Int.reduceToNat, Int.reduceNeg, Int.reduceLT, Int.reduceLE, Int.reduceEq, reduceCtorEq, h8, h9, h10, h5, e1, u8_cells]
      rw [rdUp_step hlt'] at hrd
      have hx := l[i].toNat_lt
      refine Guard_split (fun g9 => ?_) (fun g9 => ?_)
      · simp only [go_sem, Nat.reduceLT, Nat.reduceEqDiff, Nat.reduceAdd, Nat.reduceMul, Nat.reduceSub, Nat.reduceLeDiff, Int.reduceToNat, Int.reduceNeg, Int.reduceLT, Int.reduceLE, Int.reduceEq, reduceCtorEq, h8, h9, h10, h5, g9]
        refine IfB_dec (fun g1 => ?_) (fun g1 => ?_)
        · simp only [go_sem, Nat.reduceLT, Nat.reduceEqDiff, Nat.reduceAdd, Nat.reduceMul, Nat.reduceSub, Nat.reduceLeDiff, Int.reduceToNat, Int.reduceNeg, Int.reduceLT, Int.reduceLE, Int.reduceEq, reduceCtorEq]
          rw [if_pos ⟨by simp at g9; omega, by omega⟩] at hrd
          exact hK _ _ ⟨by rw [hrd]; rfl, rfl⟩
        · have hno : ¬ (i = 9 ∧ l[i].toNat > 1) := by omega
          simp only [go_sem, Nat.reduceLT, Nat.reduceEqDiff, Nat.reduceAdd, Nat.reduceMul, Nat.reduceSub, Nat.reduceLeDiff, Int.reduceToNat, Int.reduceNeg, Int.reduceLT, Int.reduceLE, Int.reduceEq, reduceCtorEq, h8, h9, h10, h5, g9]
          rw [i64_id (7 * (i : Int)) (by omega) (by omega), if_neg (by omega)]
          simp only [go_sem, Nat.reduceLT, Nat.reduceEqDiff, Nat.reduceAdd, Nat.reduceMul, Nat.reduceSub, Nat.reduceLeDiff, Int.reduceToNat, Int.reduceNeg, Int.reduceLT, Int.reduceLE, Int.reduceEq, reduceCtorEq, h8, h9, h10, h5]
          rw [if_neg hno] at hrd
          have o8 := orAcc l[i] i acc hi hacc hno
          simp only [IntKind.bits] at o8 ⊢
          rw [o8]
          have hpow : 128 ^ (i + 1) = 128 * 128 ^ i := by rw [Nat.pow_succ, Nat.mul_comm]
          refine IfB_dec (fun hl8 => ?_) (fun hl8 => ?_)
          · simp only [go_sem, Nat.reduceLT, Nat.reduceEqDiff, Nat.reduceAdd, Nat.reduceMul, Nat.reduceSub, Nat.reduceLeDiff, Int.reduceToNat, Int.reduceNeg, Int.reduceLT, Int.reduceLE, Int.reduceEq, reduceCtorEq, h8, h9, h10, h5]
            rw [if_pos (by omega)] at hrd
            refine Guard_split (fun g0 => ?_) (fun g0 => ?_)
            · simp only [go_sem, Nat.reduceLT, Nat.reduceEqDiff, Nat.reduceAdd, Nat.reduceMul, Nat.reduceSub, Nat.reduceLeDiff, Int.reduceToNat, Int.reduceNeg, Int.reduceLT, Int.reduceLE, Int.reduceEq, reduceCtorEq, h8, h9, h10, h5, g0]
              simp at g0
              refine IfB_dec (fun gi => ?_) (fun gi => ?_)
              · simp only [go_sem, Nat.reduceLT, Nat.reduceEqDiff, Nat.reduceAdd, Nat.reduceMul, Nat.reduceSub, Nat.reduceLeDiff, Int.reduceToNat, Int.reduceNeg, Int.reduceLT, Int.reduceLE, Int.reduceEq, reduceCtorEq]
                rw [if_pos ⟨by omega, by omega⟩] at hrd
                exact hK _ _ ⟨by rw [hrd]; rfl, rfl⟩
              · simp only [go_sem, Nat.reduceLT, Nat.reduceEqDiff, Nat.reduceAdd, Nat.reduceMul, Nat.reduceSub, Nat.reduceLeDiff, Int.reduceToNat, Int.reduceNeg, Int.reduceLT, Int.reduceLE, Int.reduceEq, reduceCtorEq, h8, h9, h10, h5, g0]
                rw [if_neg (by omega)] at hrd
                refine hK _ _ ⟨?_, rfl⟩
                rw [hrd, i64_id (i + 1 : Int) (by omega) (by omega), Nat.mod_eq_of_lt (by omega)]
                simp [rdV, g0]
            · simp only [go_sem, Nat.reduceLT, Nat.reduceEqDiff, Nat.reduceAdd, Nat.reduceMul, Nat.reduceSub, Nat.reduceLeDiff, Int.reduceToNat, Int.reduceNeg, Int.reduceLT, Int.reduceLE, Int.reduceEq, reduceCtorEq, h8, h9, h10, h5, g0]
              simp at g0
              rw [if_neg (by omega)] at hrd
              refine hK _ _ ⟨?_, rfl⟩
              rw [hrd, i64_id (i + 1 : Int) (by omega) (by omega), Nat.mod_eq_of_lt (by omega)]
              simp [rdV]
          · simp only [go_sem, Nat.reduceLT, Nat.reduceEqDiff, Nat.reduceAdd, Nat.reduceMul, Nat.reduceSub, Nat.reduceLeDiff, Int.reduceToNat, Int.reduceNeg, Int.reduceLT, Int.reduceLE, Int.reduceEq, reduceCtorEq, h8, h9, h10, h5]
            rw [if_neg (by omega)] at hrd
            have hi9 : i ≠ 9 := by intro h; exact hno ⟨h, by omega⟩
            refine ⟨l.length - (i + 1), by omega, i + 1, acc + l[i].toNat % 128 * 128 ^ i, rfl, by omega, ?_, ?_, ?_, ?_, ?_, hrd, rfl⟩
            · simp only [go_sem, Nat.reduceLT, Nat.reduceEqDiff, Nat.reduceAdd, Nat.reduceMul, Nat.reduceSub, Nat.reduceLeDiff, Int.reduceToNat, Int.reduceNeg, Int.reduceLT, Int.reduceLE, Int.reduceEq, reduceCtorEq, h8]
            · simp only [go_sem, Nat.reduceLT, Nat.reduceEqDiff, Nat.reduceAdd, Nat.reduceMul, Nat.reduceSub, Nat.reduceLeDiff, Int.reduceToNat, Int.reduceNeg, Int.reduceLT, Int.reduceLE, Int.reduceEq, reduceCtorEq, h9]
            · simp only [go_sem, Nat.reduceLT, Nat.reduceEqDiff, Nat.reduceAdd, Nat.reduceMul, Nat.reduceSub, Nat.reduceLeDiff, Int.reduceToNat, Int.reduceNeg, Int.reduceLT, Int.reduceLE, Int.reduceEq, reduceCtorEq]
              rw [i64_id (i + 1 : Int) (by omega) (by omega)]; rfl
            · simp only [go_sem, Nat.reduceLT, Nat.reduceEqDiff, Nat.reduceAdd, Nat.reduceMul, Nat.reduceSub, Nat.reduceLeDiff, Int.reduceToNat, Int.reduceNeg, Int.reduceLT, Int.reduceLE, Int.reduceEq, reduceCtorEq]
            · have : l[i].toNat % 128 * 128 ^ i ≤ 127 * 128 ^ i := Nat.mul_le_mul_right _ (by omega)
              omega
      · have hno : ¬ (i = 9 ∧ l[i].toNat > 1) := by simp at g9; omega
        simp only [go_sem, Nat.reduceLT, Nat.reduceEqDiff, Nat.reduceAdd, Nat.reduceMul, Nat.reduceSub, Nat.reduceLeDiff, Int.reduceToNat, Int.reduceNeg, Int.reduceLT, Int.reduceLE, Int.reduceEq, reduceCtorEq, h8, h9, h10, h5, g9]
        rw [i64_id (7 * (i : Int)) (by omega) (by omega), if_neg (by omega)]
        simp only [go_sem, Nat.reduceLT, Nat.reduceEqDiff, Nat.reduceAdd, Nat.reduceMul, Nat.reduceSub, Nat.reduceLeDiff, Int.reduceToNat, Int.reduceNeg, Int.reduceLT, Int.reduceLE, Int.reduceEq, reduceCtorEq, h8, h9, h10, h5]
        rw [if_neg hno] at hrd
        have o8 := orAcc l[i] i acc hi hacc hno
        simp only [IntKind.bits] at o8 ⊢
        rw [o8]
        have hpow : 128 ^ (i + 1) = 128 * 128 ^ i := by rw [Nat.pow_succ, Nat.mul_comm]
        refine IfB_dec (fun hl8 => ?_) (fun hl8 => ?_)
        · simp only [go_sem, Nat.reduceLT, Nat.reduceEqDiff, Nat.reduceAdd, Nat.reduceMul, Nat.reduceSub, Nat.reduceLeDiff, Int.reduceToNat, Int.reduceNeg, Int.reduceLT, Int.reduceLE, Int.reduceEq, reduceCtorEq, h8, h9, h10, h5]
          rw [if_pos (by omega)] at hrd
          refine Guard_split (fun g0 => ?_) (fun g0 => ?_)
          · simp only [go_sem, Nat.reduceLT, Nat.reduceEqDiff, Nat.reduceAdd, Nat.reduceMul, Nat.reduceSub, Nat.reduceLeDiff, Int.reduceToNat, Int.reduceNeg, Int.reduceLT, Int.reduceLE, Int.reduceEq, reduceCtorEq, h8, h9, h10, h5, g0]
            simp at g0
            refine IfB_dec (fun gi => ?_) (fun gi => ?_)
            · simp only [go_sem, Nat.reduceLT, Nat.reduceEqDiff, Nat.reduceAdd, Nat.reduceMul, Nat.reduceSub, Nat.reduceLeDiff, Int.reduceToNat, Int.reduceNeg, Int.reduceLT, Int.reduceLE, Int.reduceEq, reduceCtorEq]
              rw [if_pos ⟨by omega, by omega⟩] at hrd
              exact hK _ _ ⟨by rw [hrd]; rfl, rfl⟩
            · simp only [go_sem, Nat.reduceLT, Nat.reduceEqDiff, Nat.reduceAdd, Nat.reduceMul, Nat.reduceSub, Nat.reduceLeDiff, Int.reduceToNat, Int.reduceNeg, Int.reduceLT, Int.reduceLE, Int.reduceEq, reduceCtorEq, h8, h9, h10, h5, g0]
              rw [if_neg (by omega)] at hrd
              refine hK _ _ ⟨?_, rfl⟩
              rw [hrd, i64_id (i + 1 : Int) (by omega) (by omega), Nat.mod_eq_of_lt (by omega)]
              simp [rdV, g0]
          · simp only [go_sem, Nat.reduceLT, Nat.reduceEqDiff, Nat.reduceAdd, Nat.reduceMul, Nat.reduceSub, Nat.reduceLeDiff, Int.reduceToNat, Int.reduceNeg, Int.reduceLT, Int.reduceLE, Int.reduceEq, reduceCtorEq, h8, h9, h10, h5, g0]
            simp at g0
            rw [if_neg (by omega)] at hrd
            refine hK _ _ ⟨?_, rfl⟩
            rw [hrd, i64_id (i + 1 : Int) (by omega) (by omega), Nat.mod_eq_of_lt (by omega)]
            simp [rdV]
        · simp only [go_sem, Nat.reduceLT, Nat.reduceEqDiff, Nat.reduceAdd, Nat.reduceMul, Nat.reduceSub, Nat.reduceLeDiff, Int.reduceToNat, Int.reduceNeg, Int.reduceLT, Int.reduceLE, Int.reduceEq, reduceCtorEq, h8, h9, h10, h5]
          rw [if_neg (by omega)] at hrd
          have hi9 : i ≠ 9 := by intro h; exact hno ⟨h, by omega⟩
          refine ⟨l.length - (i + 1), by omega, i + 1, acc + l[i].toNat % 128 * 128 ^ i, rfl, by omega, ?_, ?_, ?_, ?_, ?_, hrd, rfl⟩
          · simp only [go_sem, Nat.reduceLT, Nat.reduceEqDiff, Nat.reduceAdd, Nat.reduceMul, Nat.reduceSub, Nat.reduceLeDiff, Int.reduceToNat, Int.reduceNeg, Int.reduceLT, Int.reduceLE, Int.reduceEq, reduceCtorEq, h8]
          · simp only [go_sem, Nat.reduceLT, Nat.reduceEqDiff, Nat.reduceAdd, Nat.reduceMul, Nat.reduceSub, Nat.reduceLeDiff, Int.reduceToNat, Int.reduceNeg, Int.reduceLT, Int.reduceLE, Int.reduceEq, reduceCtorEq, h9]
          · simp only [go_sem, Nat.reduceLT, Nat.reduceEqDiff, Nat.reduceAdd, Nat.reduceMul, Nat.reduceSub, Nat.reduceLeDiff, Int.reduceToNat, Int.reduceNeg, Int.reduceLT, Int.reduceLE, Int.reduceEq, reduceCtorEq]
            rw [i64_id (i + 1 : Int) (by omega) (by omega)]; rfl
          · simp only [go_sem, Nat.reduceLT, Nat.reduceEqDiff, Nat.reduceAdd, Nat.reduceMul, Nat.reduceSub, Nat.reduceLeDiff, Int.reduceToNat, Int.reduceNeg, Int.reduceLT, Int.reduceLE, Int.reduceEq, reduceCtorEq]
          · have : l[i].toNat % 128 * 128 ^ i ≤ 127 * 128 ^ i := Nat.mul_le_mul_right _ (by omega)
            omega
    · simp only [go_sem, Nat.reduceLT, Nat.reduceEqDiff, Nat.reduceAdd, Nat.reduceMul, Nat.reduceSub, Nat.reduceLeDiff, Int.reduceToNat, Int.reduceNeg, Int.reduceLT, Int.reduceLE, Int.reduceEq, reduceCtorEq]
      rw [rdUp_end (by omega)] at hrd
      exact hK _ _ ⟨by rw [hrd]; rfl, rfl⟩

theorem len_u64 (n : Nat) (h : n < 2 ^ 64) : IntKind.u64.wrap n = n := by rw [IntKind.wrap_u64]; omega
theorem text_spec (s : List UInt8) (hs : s.length ≤ 140737488355000) (H : Heap) : WC Try.prog 22 [.str s] H fun r H' => Ob H.length H' r (textL s) ∧ Keep none H H' := by
  refine WC_of_K fun K hK => ?_
  refine WC_of_body hT Try.func22 rfl (by simp [Try.f22]) (by simp [Try.f22]) (wx_sound hT _ ?_)
  simp only [Try.f22]
  simp only [go_sem, Nat.reduceLT, Nat.reduceEqDiff, Nat.reduceAdd, Nat.reduceMul, Nat.reduceSub, Nat.reduceLeDiff, Int.reduceToNat, Int.reduceNeg, Int.reduceLT, Int.reduceLE, Int.reduceEq, reduceCtorEq, len_u64 _ (show s.length < 2 ^ 64 by omega)]
  refine (small_spec s.length (by omega) _).mono ?_
  rintro r H1 ⟨ho, k1⟩
  simp only [go_sem, Nat.reduceLT, Nat.reduceEqDiff, Nat.reduceAdd, Nat.reduceMul, Nat.reduceSub, Nat.reduceLeDiff, Int.reduceToNat, Int.reduceNeg, Int.reduceLT, Int.reduceLE, Int.reduceEq, reduceCtorEq]
  have := small_len10 (n := s.length) (by omega)
  refine append_ob ho se30 az5 td5 rfl (str_src s tk9) (by omega) k1.len ?_
  intro v' H2 ho2 k2 hf
  simp only [go_sem, Nat.reduceLT, Nat.reduceEqDiff, Nat.reduceAdd, Nat.reduceMul, Nat.reduceSub, Nat.reduceLeDiff, Int.reduceToNat, Int.reduceNeg, Int.reduceLT, Int.reduceLE, Int.reduceEq, reduceCtorEq]
  exact hK _ _ ⟨ho2, Own.new ho k1 k2⟩
theorem textP (s : List UInt8) (hs : s.length ≤ 140737488355000) (H : Heap) : WC Try.prog 22 [.str s] H fun r H' => r = Enc.u8.lst (textL s) ∧ H' = H :=
  WC_froze (Q := fun r => r = _) ((text_spec s hs H).mono fun r H' ⟨h1, h2⟩ => ⟨_, Thaw.ob h1, h2, rfl⟩)
theorem cutInP (l : List UInt8) (hl : l.length ≤ 140737488355328) (H : Heap) : WC Try.prog 40 [Enc.u8.lst l] H fun r H' => r = (match cutL l with
  | some p => .tup [Enc.u8.lst p.1, Enc.u8.lst p.2, .int .i64 0]
  | none => .tup [.lst 0 [], .lst 0 [], .int .i64 8]) ∧ H' = H := by
  refine WC_val fun K hK => ?_
  refine WC_of_body hT Try.func40 rfl (by simp [Try.f40]) (by simp [Try.f40]) (wx_sound hT _ ?_)
  simp only [Try.f40]
  simp only [go_sem, Nat.reduceLT, Nat.reduceEqDiff, Nat.reduceAdd, Nat.reduceMul, Nat.reduceSub, Nat.reduceLeDiff, Int.reduceToNat, Int.reduceNeg, Int.reduceLT, Int.reduceLE, Int.reduceEq, reduceCtorEq]
  refine (readP l hl _).mono ?_
  rintro r H' ⟨rfl, rfl⟩
  cases hr : rd 0 l with
  | none =>
    have hc : cutL l = none := by unfold cutL; rw [hr]
    rw [hc] at hK
    simp only [go_sem, Nat.reduceLT, Nat.reduceEqDiff, Nat.reduceAdd, Nat.reduceMul, Nat.reduceSub, Nat.reduceLeDiff, Int.reduceToNat, Int.reduceNeg, Int.reduceLT, Int.reduceLE, Int.reduceEq, reduceCtorEq, rdV]
    exact hK _ _ (Thaw.tup_row ⟨.nils, .nils, .int _ _, trivial⟩) (Keep.refl _ _)
  | some p =>
    obtain ⟨n, k⟩ := p
    have h64 := rd_lt64 hr
    have hk := rd_len l 0 hr
    simp only at h64 hk
    have e1 : IntKind.u64.wrap (IntKind.i64.wrap ((l.length : Int) - k)) = ((l.length - k : Nat) : Int) := by
      rw [IntKind.wrap_i64, IntKind.wrap_u64]; omega
    simp only [go_sem, Nat.reduceLT, Nat.reduceEqDiff, Nat.reduceAdd, Nat.reduceMul, Nat.reduceSub, Nat.reduceLeDiff, Int.reduceToNat, Int.reduceNeg, Int.reduceLT, Int.reduceLE, Int.reduceEq, reduceCtorEq, rdV, e1]
    refine IfB_dec (fun hgt => ?_) (fun hle => ?_)
    · simp only [go_sem, Nat.reduceLT, Nat.reduceEqDiff, Nat.reduceAdd, Nat.reduceMul, Nat.reduceSub, Nat.reduceLeDiff, Int.reduceToNat, Int.reduceNeg, Int.reduceLT, Int.reduceLE, Int.reduceEq, reduceCtorEq]
      have hc : cutL l = none := by unfold cutL; rw [hr]; simp only; rw [if_neg (by omega)]
      rw [hc] at hK
      exact hK _ _ (Thaw.tup_row ⟨.nils, .nils, .int _ _, trivial⟩) (Keep.refl _ _)
    · simp only [go_sem, Nat.reduceLT, Nat.reduceEqDiff, Nat.reduceAdd, Nat.reduceMul, Nat.reduceSub, Nat.reduceLeDiff, Int.reduceToNat, Int.reduceNeg, Int.reduceLT, Int.reduceLE, Int.reduceEq, reduceCtorEq]
      refine WX_rows hT hmix [(0, none), (1, none), (2, none), (3, none), (4, none), (5, none), (6, none), (7, none), (8, none), (9, none), (10, none), (11, none), (12, none), (13, none)] (by kernel_rfl) ?_
      have hc : cutL l = some ((l.drop k).take n, l.drop (k + n)) := by unfold cutL; rw [hr]; simp only; rw [if_pos (by omega)]
      rw [hc] at hK
      have s1 := fun J => slice_enc (H := J) (E := Enc.u8) (xs := l) (l := k) (u := l.length) (lo := some (.int .i64 k)) (hi := none) se30 (abound_nat k rfl) rfl (by omega) (by omega)
      have s2 := fun J => slice_enc (H := J) (E := Enc.u8) (xs := (l.take l.length).drop k) (l := 0) (u := n) (lo := none) (hi := some (.int .u64 n)) se30 rfl (abound_nat n rfl) (by omega) (by simp; omega)
      have e2 : IntKind.i64.wrap ((k : Int) + IntKind.i64.wrap n) = ((k + n : Nat) : Int) := by
        rw [IntKind.wrap_i64, IntKind.wrap_i64]; omega
      have s3 := fun J => slice_enc (H := J) (E := Enc.u8) (xs := l) (l := k + n) (u := l.length) (lo := some (.int .i64 ((k + n : Nat) : Int))) (hi := none) se30 (abound_nat (k + n) rfl) rfl (by omega) (by omega)
      rw [List.take_length] at s2
      simp only [List.take_length, List.drop_zero] at s1 s2 s3
      simp only [go_sem, Nat.reduceLT, Nat.reduceEqDiff, Nat.reduceAdd, Nat.reduceMul, Nat.reduceSub, Nat.reduceLeDiff, Int.reduceToNat, Int.reduceNeg, Int.reduceLT, Int.reduceLE, Int.reduceEq, reduceCtorEq, e2, s1, s2, s3]
      exact hK _ _ (Thaw.tup_row ⟨.lst _ _, .lst _ _, .int _ _, trivial⟩) (Keep.refl _ _)
theorem rem128 (m : Nat) : IntKind.u8.wrap (IntKind.u8.wrap ((m : Int).tmod 128) + 128) = (UInt8.ofNat (m % 128 + 128)).toNat := by
  have : (m : Int).tmod 128 = ((m % 128 : Nat) : Int) := by rw [Int.ofNat_tmod]; rfl
  rw [this, IntKind.wrap_u8, IntKind.wrap_u8]; simp
theorem quo128 (m : Nat) : (m : Int).tdiv 128 = ((m / 128 : Nat) : Int) := by rw [Int.ofNat_tdiv]; rfl
theorem refSmall_spec (x : Nat) (hx : x < 2 ^ 64) (H : Heap) : WC Try.prog 21 [.int .u64 x] H fun r H' => Ob H.length H' r (small x) ∧ Keep none H H' := by
  refine WC_of_K fun K hK => ?_
  refine WC_of_body hT Try.func21 rfl (by simp [Try.f21]) (by simp [Try.f21]) (wx_sound hT _ ?_)
  simp only [Try.f21]
  simp only [go_sem, Nat.reduceLT, Nat.reduceEqDiff, Nat.reduceAdd, Nat.reduceMul, Nat.reduceSub, Nat.reduceLeDiff, Int.reduceToNat, Int.reduceNeg, Int.reduceLT, Int.reduceLE, Int.reduceEq, reduceCtorEq]
  refine WX_loop (fun m fr' H' => ∃ (y : Nat) (v : AV) (pre : List UInt8), m = y ∧ fr'.get 0 = .int .u64 y ∧ fr'.get 3 = v ∧ Ob H.length H' v pre ∧ Keep none H H' ∧ y < 2 ^ 64 ∧ pre ++ small y = small x) x ⟨x, .nils, [], rfl, ?_, ?_, Ob.nils _ _, Keep.refl _ _, hx, rfl⟩ ?_
  · simp only [go_sem, Nat.reduceLT, Nat.reduceEqDiff, Nat.reduceAdd, Nat.reduceMul, Nat.reduceSub, Nat.reduceLeDiff, Int.reduceToNat, Int.reduceNeg, Int.reduceLT, Int.reduceLE, Int.reduceEq, reduceCtorEq]
  · simp only [go_sem, Nat.reduceLT, Nat.reduceEqDiff, Nat.reduceAdd, Nat.reduceMul, Nat.reduceSub, Nat.reduceLeDiff, Int.reduceToNat, Int.reduceNeg, Int.reduceLT, Int.reduceLE, Int.reduceEq, reduceCtorEq]
  · rintro m fr' H' ⟨y, v, pre, rfl, h0, h3, hown, hkeep, hy, hpre⟩
    have hlen : pre.length + (small m).length ≤ 10 := by have := small_len10 hx; rw [← hpre, List.length_append] at this; exact this
    have hpos := small_pos m
    refine wx_sound hT _ ?_
    simp only [go_sem, Nat.reduceLT, Nat.reduceEqDiff, Nat.reduceAdd, Nat.reduceMul, Nat.reduceSub, Nat.reduceLeDiff, Int.reduceToNat, Int.reduceNeg, Int.reduceLT, Int.reduceLE, Int.reduceEq, reduceCtorEq, h0]
    refine IfB_dec (fun hgt => ?_) (fun hle => ?_)
    · simp only [go_sem, Nat.reduceLT, Nat.reduceEqDiff, Nat.reduceAdd, Nat.reduceMul, Nat.reduceSub, Nat.reduceLeDiff, Int.reduceToNat, Int.reduceNeg, Int.reduceLT, Int.reduceLE, Int.reduceEq, reduceCtorEq, h0, h3]
      rw [rem128]
      refine append_ob (r := [UInt8.ofNat (m % 128 + 128)]) (hown.keep0 (Keep.snoc none _ _)) se30 az5 td5 rfl ((snoc_bs _ rfl rfl rfl).src tk30) (by simp; omega) (by have := hkeep.len; simp; omega) ?_
      intro v' H'' hown' hkeep' hfresh
      simp only [go_sem, Nat.reduceLT, Nat.reduceEqDiff, Nat.reduceAdd, Nat.reduceMul, Nat.reduceSub, Nat.reduceLeDiff, Int.reduceToNat, Int.reduceNeg, Int.reduceLT, Int.reduceLE, Int.reduceEq, reduceCtorEq, h0, h3, quo128]
      have hs : small m = UInt8.ofNat (m % 128 + 128) :: small (m / 128) := small_big (by omega)
      refine ⟨m / 128, by omega, m / 128, v', pre ++ [UInt8.ofNat (m % 128 + 128)], rfl, ?_, by simp only [go_sem, Nat.reduceLT, Nat.reduceEqDiff, Nat.reduceAdd, Nat.reduceMul, Nat.reduceSub, Nat.reduceLeDiff, Int.reduceToNat, Int.reduceNeg, Int.reduceLT, Int.reduceLE, Int.reduceEq, reduceCtorEq], hown', ?_, by omega, by rw [← hpre, hs]; simp⟩
      · simp only [go_sem, Nat.reduceLT, Nat.reduceEqDiff, Nat.reduceAdd, Nat.reduceMul, Nat.reduceSub, Nat.reduceLeDiff, Int.reduceToNat, Int.reduceNeg, Int.reduceLT, Int.reduceLE, Int.reduceEq, reduceCtorEq]
        rw [len_u64 _ (by omega)]
      exact Own.new hown (hkeep.trans (Keep.snoc none _ _)) hkeep'
    · simp only [go_sem, Nat.reduceLT, Nat.reduceEqDiff, Nat.reduceAdd, Nat.reduceMul, Nat.reduceSub, Nat.reduceLeDiff, Int.reduceToNat, Int.reduceNeg, Int.reduceLT, Int.reduceLE, Int.reduceEq, reduceCtorEq, h0, h3]
      rw [wrap8 m (by omega)]
      refine append_ob (r := [UInt8.ofNat m]) (hown.keep0 (Keep.snoc none _ _)) se30 az5 td5 rfl ((snoc_bs _ rfl rfl rfl).src tk30) (by simp; omega) (by have := hkeep.len; simp; omega) ?_
      intro v' H'' hown' hkeep' hfresh
      simp only [go_sem, Nat.reduceLT, Nat.reduceEqDiff, Nat.reduceAdd, Nat.reduceMul, Nat.reduceSub, Nat.reduceLeDiff, Int.reduceToNat, Int.reduceNeg, Int.reduceLT, Int.reduceLE, Int.reduceEq, reduceCtorEq, h0, h3]
      rw [← small_low (by omega), hpre] at hown'
      exact hK _ _ ⟨hown', Own.new hown (hkeep.trans (Keep.snoc none _ _)) hkeep'⟩
theorem refText_spec (s : List UInt8) (hs : s.length ≤ 140737488355000) (H : Heap) : WC Try.prog 23 [.str s] H fun r H' => Ob H.length H' r (textL s) ∧ Keep none H H' := by
  refine WC_of_K fun K hK => ?_
  refine WC_of_body hT Try.func23 rfl (by simp [Try.f23]) (by simp [Try.f23]) (wx_sound hT _ ?_)
  simp only [Try.f23]
  simp only [go_sem, Nat.reduceLT, Nat.reduceEqDiff, Nat.reduceAdd, Nat.reduceMul, Nat.reduceSub, Nat.reduceLeDiff, Int.reduceToNat, Int.reduceNeg, Int.reduceLT, Int.reduceLE, Int.reduceEq, reduceCtorEq, len_u64 _ (show s.length < 2 ^ 64 by omega)]
  refine (refSmall_spec s.length (by omega) _).mono ?_
  rintro r H1 ⟨ho, k1⟩
  simp only [go_sem, Nat.reduceLT, Nat.reduceEqDiff, Nat.reduceAdd, Nat.reduceMul, Nat.reduceSub, Nat.reduceLeDiff, Int.reduceToNat, Int.reduceNeg, Int.reduceLT, Int.reduceLE, Int.reduceEq, reduceCtorEq]
  have := small_len10 (n := s.length) (by omega)
  refine append_ob ho se30 az5 td5 rfl (str_src s tk9) (by omega) k1.len ?_
  intro v' H2 ho2 k2 hf
  simp only [go_sem, Nat.reduceLT, Nat.reduceEqDiff, Nat.reduceAdd, Nat.reduceMul, Nat.reduceSub, Nat.reduceLeDiff, Int.reduceToNat, Int.reduceNeg, Int.reduceLT, Int.reduceLE, Int.reduceEq, reduceCtorEq]
  exact hK _ _ ⟨ho2, Own.new ho k1 k2⟩
theorem refSmallP (n : Int) (h0 : 0 ≤ n) (h1 : n < 18446744073709551616) (H : Heap) : WC Try.prog 21 [.int .u64 n] H fun r H' => r = Enc.u8.lst (small n.toNat) ∧ H' = H := by
  have := refSmall_spec n.toNat (by omega) H
  rw [show ((n.toNat : Nat) : Int) = n by omega] at this
  exact WC_froze (Q := fun r => r = _) (this.mono fun r H' ⟨h1, h2⟩ => ⟨_, Thaw.ob h1, h2, rfl⟩)
theorem refTextP (s : List UInt8) (hs : s.length ≤ 140737488355000) (H : Heap) : WC Try.prog 23 [.str s] H fun r H' => r = Enc.u8.lst (textL s) ∧ H' = H :=
  WC_froze (Q := fun r => r = _) ((refText_spec s hs H).mono fun r H' ⟨h1, h2⟩ => ⟨_, Thaw.ob h1, h2, rfl⟩)
theorem downStep (n : Nat) (x : UInt8) (hn : n < 2 * 128 ^ 8) : IntKind.u64.wrap (IntKind.u64.wrap ((n : Int) * 128) + IntKind.u64.wrap ((x.toNat : Int).tmod 128)) = ((n * 128 + x.toNat % 128 : Nat) : Int) := by
  have : (x.toNat : Int).tmod 128 = ((x.toNat % 128 : Nat) : Int) := by rw [Int.ofNat_tmod]; rfl
  rw [this, IntKind.wrap_u64, IntKind.wrap_u64, IntKind.wrap_u64]; omega
theorem refReadP (l : List UInt8) (hl : l.length ≤ 140737488355328) (H : Heap) : WC Try.prog 17 [Enc.u8.lst l] H fun r H' => r = rdV (rd 0 l) ∧ H' = H := by
  refine WC_of_K fun K hK => ?_
  refine WC_of_body hT Try.func17 rfl (by simp [Try.f17]) (by simp [Try.f17]) (wx_sound hT _ ?_)
  simp only [Try.f17]
  simp only [go_sem, Nat.reduceLT, Nat.reduceEqDiff, Nat.reduceAdd, Nat.reduceMul, Nat.reduceSub, Nat.reduceLeDiff, Int.reduceToNat, Int.reduceNeg, Int.reduceLT, Int.reduceLE, Int.reduceEq, reduceCtorEq]
  refine WX_loop (fun m fr' H' => ∃ i : Nat, m = l.length - i ∧ i ≤ 10 ∧ i ≤ l.length ∧ fr'.get 0 = Enc.u8.lst l ∧ fr'.get 5 = .int .i64 i ∧ (∀ j (h : j < l.length), j < i → 128 ≤ l[j].toNat) ∧ H' = H) l.length ⟨0, rfl, by omega, by omega, ?_, ?_, by omega, rfl⟩ ?_
  · simp only [go_sem, Nat.reduceLT, Nat.reduceEqDiff, Nat.reduceAdd, Nat.reduceMul, Nat.reduceSub, Nat.reduceLeDiff, Int.reduceToNat, Int.reduceNeg, Int.reduceLT, Int.reduceLE, Int.reduceEq, reduceCtorEq]
  · simp only [go_sem, Nat.reduceLT, Nat.reduceEqDiff, Nat.reduceAdd, Nat.reduceMul, Nat.reduceSub, Nat.reduceLeDiff, Int.reduceToNat, Int.reduceNeg, Int.reduceLT, Int.reduceLE, Int.reduceEq, reduceCtorEq]
    rfl
  · rintro m fr' H' ⟨i, rfl, hi, hil, h0, h5, hall, rfl⟩
    refine wx_sound hT _ ?_
    simp only [go_sem, Nat.reduceLT, Nat.reduceEqDiff, Nat.reduceAdd, Nat.reduceMul, Nat.reduceSub, Nat.reduceLeDiff, Int.reduceToNat, Int.reduceNeg, Int.reduceLT, Int.reduceLE, Int.reduceEq, reduceCtorEq, h0, h5]
    refine Guard_dec (fun g1 => ?_) (fun g1 => ?_)
    · have g1' : i < l.length := by omega
      simp only [go_sem, Nat.reduceLT, Nat.reduceEqDiff, Nat.reduceAdd, Nat.reduceMul, Nat.reduceSub, Nat.reduceLeDiff, Int.reduceToNat, Int.reduceNeg, Int.reduceLT, Int.reduceLE, Int.reduceEq, reduceCtorEq, h0, h5, g1]
      refine Guard_dec (fun g2 => ?_) (fun g2 => ?_)
      · have e1 := at_enc (E := Enc.u8) (T := T) (xs := l) se30 g1' (k := .i64) (z := i) rfl
        simp only [go_sem, Nat.reduceLT, Nat.reduceEqDiff, Nat.reduceAdd, Nat.reduceMul, Nat.reduceSub, Nat.reduceLeDiff, Int.reduceToNat, Int.reduceNeg, Int.reduceLT, Int.reduceLE, Int.reduceEq, reduceCtorEq, h0, h5, g1, g2, e1, u8_cells]
        refine IfB_dec (fun g3 => ?_) (fun g3 => ?_)
        · simp only [go_sem, Nat.reduceLT, Nat.reduceEqDiff, Nat.reduceAdd, Nat.reduceMul, Nat.reduceSub, Nat.reduceLeDiff, Int.reduceToNat, Int.reduceNeg, Int.reduceLT, Int.reduceLE, Int.reduceEq, reduceCtorEq, h0, h5]
          refine ⟨l.length - (i + 1), by omega, i + 1, rfl, by omega, by omega, ?_, ?_, ?_, rfl⟩
          · simp only [go_sem, Nat.reduceLT, Nat.reduceEqDiff, Nat.reduceAdd, Nat.reduceMul, Nat.reduceSub, Nat.reduceLeDiff, Int.reduceToNat, Int.reduceNeg, Int.reduceLT, Int.reduceLE, Int.reduceEq, reduceCtorEq, h0]
          · simp only [go_sem, Nat.reduceLT, Nat.reduceEqDiff, Nat.reduceAdd, Nat.reduceMul, Nat.reduceSub, Nat.reduceLeDiff, Int.reduceToNat, Int.reduceNeg, Int.reduceLT, Int.reduceLE, Int.reduceEq, reduceCtorEq]
            rw [i64_id (i + 1 : Int) (by omega) (by omega)]; rfl
          · intro j hj hji
            by_cases e : j = i
            · subst e; omega
            · exact hall j hj (by omega)
        · have hrd := rd_here g1' (by omega)
          have hz := rd_none i hall (by omega) (by omega)
          simp only [go_sem, Nat.reduceLT, Nat.reduceEqDiff, Nat.reduceAdd, Nat.reduceMul, Nat.reduceSub, Nat.reduceLeDiff, Int.reduceToNat, Int.reduceNeg, Int.reduceLT, Int.reduceLE, Int.reduceEq, reduceCtorEq, h0, h5, show ¬ ((l.length : Int) ≤ i) by omega, show ¬ (10 ≤ (i : Int)) by omega]
          have q1 : ¬ ((l.length : Int) ≤ i) := by omega
          have q2 : ¬ (10 ≤ (i : Int)) := by omega
          refine Guard_dec (fun g4 => ?_) (fun g4 => ?_)
          · have f1 := at_enc (E := Enc.u8) (T := T) (xs := l) se30 (i := 9) (by omega) (k := .i64) (z := 9) rfl
            have hi9 : i = 9 := by omega
            simp only [go_sem, Nat.reduceLT, Nat.reduceEqDiff, Nat.reduceAdd, Nat.reduceMul, Nat.reduceSub, Nat.reduceLeDiff, Int.reduceToNat, Int.reduceNeg, Int.reduceLT, Int.reduceLE, Int.reduceEq, reduceCtorEq, h0, h5, f1, u8_cells, g4, q1, q2]
            refine Guard_ndec (fun g6 => ?_) (fun g6 => ?_)
            · have hno : ¬ (i = 9 ∧ l[i].toNat > 1) := by subst hi9; omega
              have h9 : fr'.get 5 = .int .i64 9 := by rw [h5, g4]
              have f3 : (l[9]'(by omega)) = l[i] := by congr 1; exact hi9.symm
              rw [f3] at f1
              simp only [go_sem, Nat.reduceLT, Nat.reduceEqDiff, Nat.reduceAdd, Nat.reduceMul, Nat.reduceSub, Nat.reduceLeDiff, Int.reduceToNat, Int.reduceNeg, Int.reduceLT, Int.reduceLE, Int.reduceEq, reduceCtorEq, h0, h9, g6, show (0 : Int) < 9 by omega, f1, u8_cells]
              refine IfB_dec (fun g7 => ?_) (fun g7 => ?_)
              · simp only [go_sem, Nat.reduceLT, Nat.reduceEqDiff, Nat.reduceAdd, Nat.reduceMul, Nat.reduceSub, Nat.reduceLeDiff, Int.reduceToNat, Int.reduceNeg, Int.reduceLT, Int.reduceLE, Int.reduceEq, reduceCtorEq]
                refine hK _ _ ⟨?_, rfl⟩
                rw [hz (by rw [hrd, if_neg hno, if_pos ⟨by omega, by omega⟩])]; rfl
              · have hkey : rd i (l.drop i) = some (l[i].toNat, 1) := by rw [hrd, if_neg hno, if_neg (by omega)]
                simp only [go_sem, Nat.reduceLT, Nat.reduceEqDiff, Nat.reduceAdd, Nat.reduceMul, Nat.reduceSub, Nat.reduceLeDiff, Int.reduceToNat, Int.reduceNeg, Int.reduceLT, Int.reduceLE, Int.reduceEq, reduceCtorEq, h0, h5, g6]
                refine WX_loop (fun m fr' H'' => ∃ j n : Nat, m = j ∧ j ≤ i + 1 ∧ fr'.get 0 = Enc.u8.lst l ∧ fr'.get 5 = .int .i64 i ∧ fr'.get 7 = .int .i64 ((j : Int) - 1) ∧ fr'.get 6 = .int .u64 n ∧ ((j = i + 1 ∧ n = 0) ∨ (j ≤ i ∧ rd j (l.drop j) = some (n, i + 1 - j))) ∧ H'' = H') (i + 1) ⟨i + 1, 0, rfl, by omega, ?_, ?_, ?_, ?_, .inl ⟨rfl, rfl⟩, rfl⟩ ?_
                · simp only [go_sem, Nat.reduceLT, Nat.reduceEqDiff, Nat.reduceAdd, Nat.reduceMul, Nat.reduceSub, Nat.reduceLeDiff, Int.reduceToNat, Int.reduceNeg, Int.reduceLT, Int.reduceLE, Int.reduceEq, reduceCtorEq, h0]
                · simp only [go_sem, Nat.reduceLT, Nat.reduceEqDiff, Nat.reduceAdd, Nat.reduceMul, Nat.reduceSub, Nat.reduceLeDiff, Int.reduceToNat, Int.reduceNeg, Int.reduceLT, Int.reduceLE, Int.reduceEq, reduceCtorEq, h5]
                · simp only [go_sem, Nat.reduceLT, Nat.reduceEqDiff, Nat.reduceAdd, Nat.reduceMul, Nat.reduceSub, Nat.reduceLeDiff, Int.reduceToNat, Int.reduceNeg, Int.reduceLT, Int.reduceLE, Int.reduceEq, reduceCtorEq]
                  rw [show ((i + 1 : Nat) : Int) - 1 = i by omega]
                · simp only [go_sem, Nat.reduceLT, Nat.reduceEqDiff, Nat.reduceAdd, Nat.reduceMul, Nat.reduceSub, Nat.reduceLeDiff, Int.reduceToNat, Int.reduceNeg, Int.reduceLT, Int.reduceLE, Int.reduceEq, reduceCtorEq]
                  rfl
                · rintro m fr'' H'' ⟨j, n, rfl, hj, d0, d5, d7, d6, hn, rfl⟩
                  refine wx_sound hT _ ?_
                  simp only [go_sem, Nat.reduceLT, Nat.reduceEqDiff, Nat.reduceAdd, Nat.reduceMul, Nat.reduceSub, Nat.reduceLeDiff, Int.reduceToNat, Int.reduceNeg, Int.reduceLT, Int.reduceLE, Int.reduceEq, reduceCtorEq, d0, d5, d7, d6]
                  refine IfB_dec (fun gj => ?_) (fun gj => ?_)
                  · have y1 := at_enc (E := Enc.u8) (T := T) (xs := l) se30 (i := m - 1) (by omega) (k := .i64) (z := (m : Int) - 1) (by omega)
                    simp only [go_sem, Nat.reduceLT, Nat.reduceEqDiff, Nat.reduceAdd, Nat.reduceMul, Nat.reduceSub, Nat.reduceLeDiff, Int.reduceToNat, Int.reduceNeg, Int.reduceLT, Int.reduceLE, Int.reduceEq, reduceCtorEq, d0, d5, d7, d6, y1, u8_cells]
                    have hn8 : n < 2 * 128 ^ 8 := by
                      rcases hn with ⟨_, rfl⟩ | ⟨h1, h2⟩
                      · omega
                      · have := rd_lt _ m (9 - m) (by omega) h2
                        have h3 : 128 ^ (9 - m) ≤ 128 ^ 8 := Nat.pow_le_pow_right (by omega) (by omega)
                        simp only at this; omega
                    rw [downStep n _ hn8]
                    refine ⟨m - 1, by omega, m - 1, n * 128 + l[m - 1].toNat % 128, rfl, by omega, ?_, ?_, ?_, ?_, .inr ⟨by omega, ?_⟩, rfl⟩
                    · simp only [go_sem, Nat.reduceLT, Nat.reduceEqDiff, Nat.reduceAdd, Nat.reduceMul, Nat.reduceSub, Nat.reduceLeDiff, Int.reduceToNat, Int.reduceNeg, Int.reduceLT, Int.reduceLE, Int.reduceEq, reduceCtorEq, d0]
                    · simp only [go_sem, Nat.reduceLT, Nat.reduceEqDiff, Nat.reduceAdd, Nat.reduceMul, Nat.reduceSub, Nat.reduceLeDiff, Int.reduceToNat, Int.reduceNeg, Int.reduceLT, Int.reduceLE, Int.reduceEq, reduceCtorEq, d5]
                    · simp only [go_sem, Nat.reduceLT, Nat.reduceEqDiff, Nat.reduceAdd, Nat.reduceMul, Nat.reduceSub, Nat.reduceLeDiff, Int.reduceToNat, Int.reduceNeg, Int.reduceLT, Int.reduceLE, Int.reduceEq, reduceCtorEq]
                      rw [i64_id ((m : Int) - 1 - 1) (by omega) (by omega), show ((m - 1 : Nat) : Int) = (m : Int) - 1 by omega]
                    · simp only [go_sem, Nat.reduceLT, Nat.reduceEqDiff, Nat.reduceAdd, Nat.reduceMul, Nat.reduceSub, Nat.reduceLeDiff, Int.reduceToNat, Int.reduceNeg, Int.reduceLT, Int.reduceLE, Int.reduceEq, reduceCtorEq]
                    · rcases hn with ⟨rfl, rfl⟩ | ⟨h1, h2⟩
                      · simp only [Nat.add_sub_cancel]
                        rw [hkey, Nat.mod_eq_of_lt (by omega)]; simp
                      · rw [rd_skip (by omega) (hall _ (by omega) (by omega)) (by omega), show m - 1 + 1 = m by omega, h2]
                        simp only [Option.map_some, Option.some.injEq, Prod.mk.injEq, true_and]
                        omega
                  · obtain rfl : m = 0 := by omega
                    simp only [go_sem, Nat.reduceLT, Nat.reduceEqDiff, Nat.reduceAdd, Nat.reduceMul, Nat.reduceSub, Nat.reduceLeDiff, Int.reduceToNat, Int.reduceNeg, Int.reduceLT, Int.reduceLE, Int.reduceEq, reduceCtorEq, d0, d5, d7, d6]
                    refine hK _ _ ⟨?_, rfl⟩
                    rcases hn with ⟨h1, _⟩ | ⟨h1, h2⟩
                    · omega
                    · rw [List.drop_zero] at h2
                      rw [h2, i64_id ((i : Int) + 1) (by omega) (by omega)]; rfl
            · simp only [go_sem, Nat.reduceLT, Nat.reduceEqDiff, Nat.reduceAdd, Nat.reduceMul, Nat.reduceSub, Nat.reduceLeDiff, Int.reduceToNat, Int.reduceNeg, Int.reduceLT, Int.reduceLE, Int.reduceEq, reduceCtorEq, h0, h5, g6]
              refine hK _ _ ⟨?_, rfl⟩
              rw [hz (by rw [hrd, if_pos ⟨hi9, by subst hi9; omega⟩])]; rfl
          · have hno : ¬ (i = 9 ∧ l[i].toNat > 1) := by omega
            simp only [go_sem, Nat.reduceLT, Nat.reduceEqDiff, Nat.reduceAdd, Nat.reduceMul, Nat.reduceSub, Nat.reduceLeDiff, Int.reduceToNat, Int.reduceNeg, Int.reduceLT, Int.reduceLE, Int.reduceEq, reduceCtorEq, h0, h5, g4, q1, q2]
            refine Guard_dec (fun g6 => ?_) (fun g6 => ?_)
            · simp only [go_sem, Nat.reduceLT, Nat.reduceEqDiff, Nat.reduceAdd, Nat.reduceMul, Nat.reduceSub, Nat.reduceLeDiff, Int.reduceToNat, Int.reduceNeg, Int.reduceLT, Int.reduceLE, Int.reduceEq, reduceCtorEq, h0, h5, g6, e1, u8_cells]
              refine IfB_dec (fun g7 => ?_) (fun g7 => ?_)
              · simp only [go_sem, Nat.reduceLT, Nat.reduceEqDiff, Nat.reduceAdd, Nat.reduceMul, Nat.reduceSub, Nat.reduceLeDiff, Int.reduceToNat, Int.reduceNeg, Int.reduceLT, Int.reduceLE, Int.reduceEq, reduceCtorEq]
                refine hK _ _ ⟨?_, rfl⟩
                rw [hz (by rw [hrd, if_neg hno, if_pos ⟨by omega, by omega⟩])]; rfl
              · have hkey : rd i (l.drop i) = some (l[i].toNat, 1) := by rw [hrd, if_neg hno, if_neg (by omega)]
                simp only [go_sem, Nat.reduceLT, Nat.reduceEqDiff, Nat.reduceAdd, Nat.reduceMul, Nat.reduceSub, Nat.reduceLeDiff, Int.reduceToNat, Int.reduceNeg, Int.reduceLT, Int.reduceLE, Int.reduceEq, reduceCtorEq, h0, h5, g6]
                refine WX_loop (fun m fr' H'' => ∃ j n : Nat, m = j ∧ j ≤ i + 1 ∧ fr'.get 0 = Enc.u8.lst l ∧ fr'.get 5 = .int .i64 i ∧ fr'.get 7 = .int .i64 ((j : Int) - 1) ∧ fr'.get 6 = .int .u64 n ∧ ((j = i + 1 ∧ n = 0) ∨ (j ≤ i ∧ rd j (l.drop j) = some (n, i + 1 - j))) ∧ H'' = H') (i + 1) ⟨i + 1, 0, rfl, by omega, ?_, ?_, ?_, ?_, .inl ⟨rfl, rfl⟩, rfl⟩ ?_
                · simp only [go_sem, Nat.reduceLT, Nat.reduceEqDiff, Nat.reduceAdd, Nat.reduceMul, Nat.reduceSub, Nat.reduceLeDiff, Int.reduceToNat, Int.reduceNeg, Int.reduceLT, Int.reduceLE, Int.reduceEq, reduceCtorEq, h0]
                · simp only [go_sem, Nat.reduceLT, Nat.reduceEqDiff, Nat.reduceAdd, Nat.reduceMul, Nat.reduceSub, Nat.reduceLeDiff, Int.reduceToNat, Int.reduceNeg, Int.reduceLT, Int.reduceLE, Int.reduceEq, reduceCtorEq, h5]
                · simp only [go_sem, Nat.reduceLT, Nat.reduceEqDiff, Nat.reduceAdd, Nat.reduceMul, Nat.reduceSub, Nat.reduceLeDiff, Int.reduceToNat, Int.reduceNeg, Int.reduceLT, Int.reduceLE, Int.reduceEq, reduceCtorEq]
                  rw [show ((i + 1 : Nat) : Int) - 1 = i by omega]
                · simp only [go_sem, Nat.reduceLT, Nat.reduceEqDiff, Nat.reduceAdd, Nat.reduceMul, Nat.reduceSub, Nat.reduceLeDiff, Int.reduceToNat, Int.reduceNeg, Int.reduceLT, Int.reduceLE, Int.reduceEq, reduceCtorEq]
                  rfl
                · rintro m fr'' H'' ⟨j, n, rfl, hj, d0, d5, d7, d6, hn, rfl⟩
                  refine wx_sound hT _ ?_
                  simp only [go_sem, Nat.reduceLT, Nat.reduceEqDiff, Nat.reduceAdd, Nat.reduceMul, Nat.reduceSub, Nat.reduceLeDiff, Int.reduceToNat, Int.reduceNeg, Int.reduceLT, Int.reduceLE, Int.reduceEq, reduceCtorEq, d0, d5, d7, d6]
                  refine IfB_dec (fun gj => ?_) (fun gj => ?_)
                  · have y1 := at_enc (E := Enc.u8) (T := T) (xs := l) se30 (i := m - 1) (by omega) (k := .i64) (z := (m : Int) - 1) (by omega)
                    simp only [go_sem, Nat.reduceLT, Nat.reduceEqDiff, Nat.reduceAdd, Nat.reduceMul, Nat.reduceSub, Nat.reduceLeDiff, Int.reduceToNat, Int.reduceNeg, Int.reduceLT, Int.reduceLE, Int.reduceEq, reduceCtorEq, d0, d5, d7, d6, y1, u8_cells]
                    have hn8 : n < 2 * 128 ^ 8 := by
                      rcases hn with ⟨_, rfl⟩ | ⟨h1, h2⟩
                      · omega
                      · have := rd_lt _ m (9 - m) (by omega) h2
                        have h3 : 128 ^ (9 - m) ≤ 128 ^ 8 := Nat.pow_le_pow_right (by omega) (by omega)
                        simp only at this; omega
                    rw [downStep n _ hn8]
                    refine ⟨m - 1, by omega, m - 1, n * 128 + l[m - 1].toNat % 128, rfl, by omega, ?_, ?_, ?_, ?_, .inr ⟨by omega, ?_⟩, rfl⟩
                    · simp only [go_sem, Nat.reduceLT, Nat.reduceEqDiff, Nat.reduceAdd, Nat.reduceMul, Nat.reduceSub, Nat.reduceLeDiff, Int.reduceToNat, Int.reduceNeg, Int.reduceLT, Int.reduceLE, Int.reduceEq, reduceCtorEq, d0]
                    · simp only [go_sem, Nat.reduceLT, Nat.reduceEqDiff, Nat.reduceAdd, Nat.reduceMul, Nat.reduceSub, Nat.reduceLeDiff, Int.reduceToNat, Int.reduceNeg, Int.reduceLT, Int.reduceLE, Int.reduceEq, reduceCtorEq, d5]
                    · simp only [go_sem, Nat.reduceLT, Nat.reduceEqDiff, Nat.reduceAdd, Nat.reduceMul, Nat.reduceSub, Nat.reduceLeDiff, Int.reduceToNat, Int.reduceNeg, Int.reduceLT, Int.reduceLE, Int.reduceEq, reduceCtorEq]
                      rw [i64_id ((m : Int) - 1 - 1) (by omega) (by omega), show ((m - 1 : Nat) : Int) = (m : Int) - 1 by omega]
                    · simp only [go_sem, Nat.reduceLT, Nat.reduceEqDiff, Nat.reduceAdd, Nat.reduceMul, Nat.reduceSub, Nat.reduceLeDiff, Int.reduceToNat, Int.reduceNeg, Int.reduceLT, Int.reduceLE, Int.reduceEq, reduceCtorEq]
                    · rcases hn with ⟨rfl, rfl⟩ | ⟨h1, h2⟩
                      · simp only [Nat.add_sub_cancel]
                        rw [hkey, Nat.mod_eq_of_lt (by omega)]; simp
                      · rw [rd_skip (by omega) (hall _ (by omega) (by omega)) (by omega), show m - 1 + 1 = m by omega, h2]
                        simp only [Option.map_some, Option.some.injEq, Prod.mk.injEq, true_and]
                        omega
                  · obtain rfl : m = 0 := by omega
                    simp only [go_sem, Nat.reduceLT, Nat.reduceEqDiff, Nat.reduceAdd, Nat.reduceMul, Nat.reduceSub, Nat.reduceLeDiff, Int.reduceToNat, Int.reduceNeg, Int.reduceLT, Int.reduceLE, Int.reduceEq, reduceCtorEq, d0, d5, d7, d6]
                    refine hK _ _ ⟨?_, rfl⟩
                    rcases hn with ⟨h1, _⟩ | ⟨h1, h2⟩
                    · omega
                    · rw [List.drop_zero] at h2
                      rw [h2, i64_id ((i : Int) + 1) (by omega) (by omega)]; rfl
            · have hkey : rd i (l.drop i) = some (l[i].toNat, 1) := by rw [hrd, if_neg hno, if_neg (by omega)]
              simp only [go_sem, Nat.reduceLT, Nat.reduceEqDiff, Nat.reduceAdd, Nat.reduceMul, Nat.reduceSub, Nat.reduceLeDiff, Int.reduceToNat, Int.reduceNeg, Int.reduceLT, Int.reduceLE, Int.reduceEq, reduceCtorEq, h0, h5, g6]
              refine WX_loop (fun m fr' H'' => ∃ j n : Nat, m = j ∧ j ≤ i + 1 ∧ fr'.get 0 = Enc.u8.lst l ∧ fr'.get 5 = .int .i64 i ∧ fr'.get 7 = .int .i64 ((j : Int) - 1) ∧ fr'.get 6 = .int .u64 n ∧ ((j = i + 1 ∧ n = 0) ∨ (j ≤ i ∧ rd j (l.drop j) = some (n, i + 1 - j))) ∧ H'' = H') (i + 1) ⟨i + 1, 0, rfl, by omega, ?_, ?_, ?_, ?_, .inl ⟨rfl, rfl⟩, rfl⟩ ?_
              · simp only [go_sem, Nat.reduceLT, Nat.reduceEqDiff, Nat.reduceAdd, Nat.reduceMul, Nat.reduceSub, Nat.reduceLeDiff, Int.reduceToNat, Int.reduceNeg, Int.reduceLT, Int.reduceLE, Int.reduceEq, reduceCtorEq, h0]
              · simp only [go_sem, Nat.reduceLT, Nat.reduceEqDiff, Nat.reduceAdd, Nat.reduceMul, Nat.reduceSub, Nat.reduceLeDiff, Int.reduceToNat, Int.reduceNeg, Int.reduceLT, Int.reduceLE, Int.reduceEq, reduceCtorEq, h5]
              · simp only [go_sem, Nat.reduceLT, Nat.reduceEqDiff, Nat.reduceAdd, Nat.reduceMul, Nat.reduceSub, Nat.reduceLeDiff, Int.reduceToNat, Int.reduceNeg, Int.reduceLT, Int.reduceLE, Int.reduceEq, reduceCtorEq]
                rw [show ((i + 1 : Nat) : Int) - 1 = i by omega]
              · simp only [go_sem, Nat.reduceLT, Nat.reduceEqDiff, Nat.reduceAdd, Nat.reduceMul, Nat.reduceSub, Nat.reduceLeDiff, Int.reduceToNat, Int.reduceNeg, Int.reduceLT, Int.reduceLE, Int.reduceEq, reduceCtorEq]
                rfl
              · rintro m fr'' H'' ⟨j, n, rfl, hj, d0, d5, d7, d6, hn, rfl⟩
                refine wx_sound hT _ ?_
                simp only [go_sem, Nat.reduceLT, Nat.reduceEqDiff, Nat.reduceAdd, Nat.reduceMul, Nat.reduceSub, Nat.reduceLeDiff, Int.reduceToNat, Int.reduceNeg, Int.reduceLT, Int.reduceLE, Int.reduceEq, reduceCtorEq, d0, d5, d7, d6]
                refine IfB_dec (fun gj => ?_) (fun gj => ?_)
                · have y1 := at_enc (E := Enc.u8) (T := T) (xs := l) se30 (i := m - 1) (by omega) (k := .i64) (z := (m : Int) - 1) (by omega)
                  simp only [go_sem, Nat.reduceLT, Nat.reduceEqDiff, Nat.reduceAdd, Nat.reduceMul, Nat.reduceSub, Nat.reduceLeDiff, Int.reduceToNat, Int.reduceNeg, Int.reduceLT, Int.reduceLE, Int.reduceEq, reduceCtorEq, d0, d5, d7, d6, y1, u8_cells]
                  have hn8 : n < 2 * 128 ^ 8 := by
                    rcases hn with ⟨_, rfl⟩ | ⟨h1, h2⟩
                    · omega
                    · have := rd_lt _ m (9 - m) (by omega) h2
                      have h3 : 128 ^ (9 - m) ≤ 128 ^ 8 := Nat.pow_le_pow_right (by omega) (by omega)
                      simp only at this; omega
                  rw [downStep n _ hn8]
                  refine ⟨m - 1, by omega, m - 1, n * 128 + l[m - 1].toNat % 128, rfl, by omega, ?_, ?_, ?_, ?_, .inr ⟨by omega, ?_⟩, rfl⟩
                  · simp only [go_sem, Nat.reduceLT, Nat.reduceEqDiff, Nat.reduceAdd, Nat.reduceMul, Nat.reduceSub, Nat.reduceLeDiff, Int.reduceToNat, Int.reduceNeg, Int.reduceLT, Int.reduceLE, Int.reduceEq, reduceCtorEq, d0]
                  · simp only [go_sem, Nat.reduceLT, Nat.reduceEqDiff, Nat.reduceAdd, Nat.reduceMul, Nat.reduceSub, Nat.reduceLeDiff, Int.reduceToNat, Int.reduceNeg, Int.reduceLT, Int.reduceLE, Int.reduceEq, reduceCtorEq, d5]
                  · simp only [go_sem, Nat.reduceLT, Nat.reduceEqDiff, Nat.reduceAdd, Nat.reduceMul, Nat.reduceSub, Nat.reduceLeDiff, Int.reduceToNat, Int.reduceNeg, Int.reduceLT, Int.reduceLE, Int.reduceEq, reduceCtorEq]
                    rw [i64_id ((m : Int) - 1 - 1) (by omega) (by omega), show ((m - 1 : Nat) : Int) = (m : Int) - 1 by omega]
                  · simp only [go_sem, Nat.reduceLT, Nat.reduceEqDiff, Nat.reduceAdd, Nat.reduceMul, Nat.reduceSub, Nat.reduceLeDiff, Int.reduceToNat, Int.reduceNeg, Int.reduceLT, Int.reduceLE, Int.reduceEq, reduceCtorEq]
                  · rcases hn with ⟨rfl, rfl⟩ | ⟨h1, h2⟩
                    · simp only [Nat.add_sub_cancel]
                      rw [hkey, Nat.mod_eq_of_lt (by omega)]; simp
                    · rw [rd_skip (by omega) (hall _ (by omega) (by omega)) (by omega), show m - 1 + 1 = m by omega, h2]
                      simp only [Option.map_some, Option.some.injEq, Prod.mk.injEq, true_and]
                      omega
                · obtain rfl : m = 0 := by omega
                  simp only [go_sem, Nat.reduceLT, Nat.reduceEqDiff, Nat.reduceAdd, Nat.reduceMul, Nat.reduceSub, Nat.reduceLeDiff, Int.reduceToNat, Int.reduceNeg, Int.reduceLT, Int.reduceLE, Int.reduceEq, reduceCtorEq, d0, d5, d7, d6]
                  refine hK _ _ ⟨?_, rfl⟩
                  rcases hn with ⟨h1, _⟩ | ⟨h1, h2⟩
                  · omega
                  · rw [List.drop_zero] at h2
                    rw [h2, i64_id ((i : Int) + 1) (by omega) (by omega)]; rfl
      · simp only [go_sem, Nat.reduceLT, Nat.reduceEqDiff, Nat.reduceAdd, Nat.reduceMul, Nat.reduceSub, Nat.reduceLeDiff, Int.reduceToNat, Int.reduceNeg, Int.reduceLT, Int.reduceLE, Int.reduceEq, reduceCtorEq, h0, h5, g1, g2, show ¬ ((l.length : Int) ≤ i) by omega, show 10 ≤ (i : Int) by omega]
        refine hK _ _ ⟨?_, rfl⟩
        have hi : i = 10 := by omega
        subst hi
        rw [rd_none 9 (fun j hj hk => hall j hj (by omega)) (by omega) (by omega) (rd_nine (by omega) (by have := hall 9 (by omega) (by omega); omega))]
        rfl
    · simp only [go_sem, Nat.reduceLT, Nat.reduceEqDiff, Nat.reduceAdd, Nat.reduceMul, Nat.reduceSub, Nat.reduceLeDiff, Int.reduceToNat, Int.reduceNeg, Int.reduceLT, Int.reduceLE, Int.reduceEq, reduceCtorEq, h0, h5, g1, show (l.length : Int) ≤ i by omega]
      refine hK _ _ ⟨?_, rfl⟩
      by_cases hi : i = 10
      · subst hi
        rw [rd_none 9 (fun j hj hk => hall j hj (by omega)) (by omega) (by omega) (rd_nine (by omega) (by have := hall 9 (by omega) (by omega); omega))]
        rfl
      · rw [rd_none i hall hil (by omega) (by rw [List.drop_eq_nil_of_le (by omega)]; rfl)]
        rfl
end Go.Proofs.Ytakmlfbejbelaaa
