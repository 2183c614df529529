import Derived.Test.YtccfhighlpfdmaaCodecL
import Derived.Test.YtccfhighlpfdmaaTrackTd
import Derived.Test.YtccfhighlpfdmaaPiSem
import Derived.Test.YtccfhighlpfdmaaPiV
import Derived.Test.YtccfhighlpfdmaaPiYa
import Derived.Test.YtccfhighlpfdmaaPiW
set_option linter.unusedSimpArgs false
set_option linter.unusedVariables false
set_option maxRecDepth 100000
set_option maxHeartbeats 2000000
namespace Go.Proofs.Ytccfhighlpfdmaa
open Go Go.Proofs Go.Proofs.PI
theorem i64_id (x : Int) (h0 : -9223372036854775808 ≤ x) (h1 : x < 9223372036854775808) : IntKind.i64.wrap x = x := by
  rw [IntKind.wrap_i64]; omega
theorem inc_id {i n : Nat} (h : i < n) (hn : n ≤ 140737488355328) : IntKind.i64.wrap ((i : Int) + 1) = ((i + 1 : Nat) : Int) := by
  rw [IntKind.wrap_i64]; omega
/-! ### numbers and texts as bytes (over values) -/
theorem Thaw.ob {m : Nat} {H : Heap} {v : AV} {l : List UInt8} (h : Ob m H v l) : Thaw m H v (Enc.u8.lst l) := by
  have h' : OwnE Enc.u8 m H v l := by unfold OwnE; rw [Enc.u8_row]; exact h
  exact h'.thaw (by decide)
theorem or128 (y : Nat) : IntKind.u8.wrap (BitVec.ofInt IntKind.u8.bits (IntKind.u8.wrap y) ||| BitVec.ofInt IntKind.u8.bits 128).toNat = (UInt8.ofNat (y % 128 + 128)).toNat := by
  have h1 : (UInt8.ofNat (y % 128 + 128)).toNat = y % 128 + 128 := by simp; omega
  rw [h1, IntKind.wrap_u8, IntKind.wrap_u8]
  have h2 : (BitVec.ofInt IntKind.u8.bits ((y : Int) % 256) ||| BitVec.ofInt IntKind.u8.bits 128).toNat = (y % 256) ||| 128 := by
    rw [BitVec.toNat_or, BitVec.toNat_ofInt, BitVec.toNat_ofInt]
    congr 1
    simp only [IntKind.bits]; omega
  rw [h2]
  have h3 : (y % 256) ||| 128 = y % 128 + 128 := by
    have : ∀ z < 256, z ||| 128 = z % 128 + 128 := by decide
    rw [this _ (by omega)]; omega
  rw [h3]; omega
theorem wrap8 (y : Nat) (h : y ≤ 127) : IntKind.u8.wrap y = (UInt8.ofNat y).toNat := by
  rw [IntKind.wrap_u8]; simp
theorem shr7 (y : Nat) : (y : Int).fdiv (2 ^ min (Int.toNat 7) IntKind.u64.bits) = ((y / 128 : Nat) : Int) := by
  rw [Int.fdiv_eq_ediv_of_nonneg _ (by exact Int.pow_nonneg (by omega))]
  simp [IntKind.bits]
theorem small_spec (x : Nat) (hx : x < 2 ^ 64) (H : Heap) : WC Try.prog 68 [.int .u64 x] H fun r H' => Ob H.length H' r (small x) ∧ Keep none H H' := by
  refine WC_of_K fun K hK => ?_
  refine WC_of_body hT Try.func68 rfl (by simp [Try.f68]) (by simp [Try.f68]) (wx_sound hT _ ?_)
  simp only [Try.f68]
  simp only [go_sem, Nat.reduceLT, Nat.reduceEqDiff, Nat.reduceAdd, Nat.reduceMul, Nat.reduceSub, Nat.reduceLeDiff, Int.reduceToNat, Int.reduceNeg, Int.reduceLT, Int.reduceLE, Int.reduceEq, reduceCtorEq]
  refine WX_loop (fun m fr' H' => ∃ (y : Nat) (v : AV) (pre : List UInt8), m = y ∧ fr'.get 0 = .int .u64 y ∧ fr'.get 3 = v ∧ Ob H.length H' v pre ∧ Keep none H H' ∧ y < 2 ^ 64 ∧ pre ++ small y = small x) x ⟨x, .nils, [], rfl, ?_, ?_, Ob.nils _ _, Keep.refl _ _, hx, rfl⟩ ?_
  · simp only [go_sem, Nat.reduceLT, Nat.reduceEqDiff, Nat.reduceAdd, Nat.reduceMul, Nat.reduceSub, Nat.reduceLeDiff, Int.reduceToNat, Int.reduceNeg, Int.reduceLT, Int.reduceLE, Int.reduceEq, reduceCtorEq]
  · simp only [go_sem, Nat.reduceLT, Nat.reduceEqDiff, Nat.reduceAdd, Nat.reduceMul, Nat.reduceSub, Nat.reduceLeDiff, Int.reduceToNat, Int.reduceNeg, Int.reduceLT, Int.reduceLE, Int.reduceEq, reduceCtorEq]
  · rintro m fr' H' ⟨y, v, pre, rfl, h0, h3, hown, hkeep, hy, hpre⟩
    have hlen : pre.length + (small m).length ≤ 10 := by have := small_len10 hx; rw [← hpre, List.length_append] at this; exact this
    have hpos := small_pos m
    refine wx_sound hT _ ?_
    simp only [go_sem, Nat.reduceLT, Nat.reduceEqDiff, Nat.reduceAdd, Nat.reduceMul, Nat.reduceSub, Nat.reduceLeDiff, Int.reduceToNat, Int.reduceNeg, Int.reduceLT, Int.reduceLE, Int.reduceEq, reduceCtorEq, h0]
    refine IfB_dec (fun hgt => ?_) (fun hle => ?_)
    · simp only [go_sem, Nat.reduceLT, Nat.reduceEqDiff, Nat.reduceAdd, Nat.reduceMul, Nat.reduceSub, Nat.reduceLeDiff, Int.reduceToNat, Int.reduceNeg, Int.reduceLT, Int.reduceLE, Int.reduceEq, reduceCtorEq, h0, h3]
      have o8 := or128 m
      simp only [IntKind.bits] at o8 ⊢
      rw [o8]
      refine append_ob (r := [UInt8.ofNat (m % 128 + 128)]) (hown.keep0 (Keep.snoc none _ _)) se59 az5 td5 rfl ((snoc_bs _ rfl rfl rfl).src tk59) (by simp; omega) (by have := hkeep.len; simp; omega) ?_
      intro v' H'' hown' hkeep' hfresh
      simp only [go_sem, Nat.reduceLT, Nat.reduceEqDiff, Nat.reduceAdd, Nat.reduceMul, Nat.reduceSub, Nat.reduceLeDiff, Int.reduceToNat, Int.reduceNeg, Int.reduceLT, Int.reduceLE, Int.reduceEq, reduceCtorEq, h0, h3, shr7]
      have hs : small m = UInt8.ofNat (m % 128 + 128) :: small (m / 128) := small_big (by omega)
      refine ⟨m / 128, by omega, m / 128, v', pre ++ [UInt8.ofNat (m % 128 + 128)], rfl, ?_, by simp only [go_sem, Nat.reduceLT, Nat.reduceEqDiff, Nat.reduceAdd, Nat.reduceMul, Nat.reduceSub, Nat.reduceLeDiff, Int.reduceToNat, Int.reduceNeg, Int.reduceLT, Int.reduceLE, Int.reduceEq, reduceCtorEq], hown', ?_, by omega, by rw [← hpre, hs]; simp⟩
      · simp only [go_sem, Nat.reduceLT, Nat.reduceEqDiff, Nat.reduceAdd, Nat.reduceMul, Nat.reduceSub, Nat.reduceLeDiff, Int.reduceToNat, Int.reduceNeg, Int.reduceLT, Int.reduceLE, Int.reduceEq, reduceCtorEq]
        exact congrArg _ (shr7 m)
      exact Own.new hown (hkeep.trans (Keep.snoc none _ _)) hkeep'
    · simp only [go_sem, Nat.reduceLT, Nat.reduceEqDiff, Nat.reduceAdd, Nat.reduceMul, Nat.reduceSub, Nat.reduceLeDiff, Int.reduceToNat, Int.reduceNeg, Int.reduceLT, Int.reduceLE, Int.reduceEq, reduceCtorEq, h0, h3]
      rw [wrap8 m (by omega)]
      refine append_ob (r := [UInt8.ofNat m]) (hown.keep0 (Keep.snoc none _ _)) se59 az5 td5 rfl ((snoc_bs _ rfl rfl rfl).src tk59) (by simp; omega) (by have := hkeep.len; simp; omega) ?_
      intro v' H'' hown' hkeep' hfresh
      simp only [go_sem, Nat.reduceLT, Nat.reduceEqDiff, Nat.reduceAdd, Nat.reduceMul, Nat.reduceSub, Nat.reduceLeDiff, Int.reduceToNat, Int.reduceNeg, Int.reduceLT, Int.reduceLE, Int.reduceEq, reduceCtorEq, h0, h3]
      rw [← small_low (by omega), hpre] at hown'
      exact hK _ _ ⟨hown', Own.new hown (hkeep.trans (Keep.snoc none _ _)) hkeep'⟩

theorem smallP (n : Int) (h0 : 0 ≤ n) (h1 : n < 18446744073709551616) (H : Heap) : WC Try.prog 68 [.int .u64 n] H fun r H' => r = Enc.u8.lst (small n.toNat) ∧ H' = H := by
  have := small_spec n.toNat (by omega) H
  rw [show ((n.toNat : Nat) : Int) = n by omega] at this
  exact WC_froze (Q := fun r => r = _) (this.mono fun r H' ⟨h1, h2⟩ => ⟨_, Thaw.ob h1, h2, rfl⟩)
theorem len_u64 (n : Nat) (h : n < 2 ^ 64) : IntKind.u64.wrap n = n := by rw [IntKind.wrap_u64]; omega
theorem text_spec (s : List UInt8) (hs : s.length ≤ 140737488355000) (H : Heap) : WC Try.prog 75 [.str s] H fun r H' => Ob H.length H' r (textL s) ∧ Keep none H H' := by
  refine WC_of_K fun K hK => ?_
  refine WC_of_body hT Try.func75 rfl (by simp [Try.f75]) (by simp [Try.f75]) (wx_sound hT _ ?_)
  simp only [Try.f75]
  simp only [go_sem, Nat.reduceLT, Nat.reduceEqDiff, Nat.reduceAdd, Nat.reduceMul, Nat.reduceSub, Nat.reduceLeDiff, Int.reduceToNat, Int.reduceNeg, Int.reduceLT, Int.reduceLE, Int.reduceEq, reduceCtorEq, len_u64 _ (show s.length < 2 ^ 64 by omega)]
  refine (small_spec s.length (by omega) _).mono ?_
  rintro r H1 ⟨ho, k1⟩
  simp only [go_sem, Nat.reduceLT, Nat.reduceEqDiff, Nat.reduceAdd, Nat.reduceMul, Nat.reduceSub, Nat.reduceLeDiff, Int.reduceToNat, Int.reduceNeg, Int.reduceLT, Int.reduceLE, Int.reduceEq, reduceCtorEq]
  have := small_len10 (n := s.length) (by omega)
  refine append_ob ho se59 az5 td5 rfl (str_src s tk9) (by omega) k1.len ?_
  intro v' H2 ho2 k2 hf
  simp only [go_sem, Nat.reduceLT, Nat.reduceEqDiff, Nat.reduceAdd, Nat.reduceMul, Nat.reduceSub, Nat.reduceLeDiff, Int.reduceToNat, Int.reduceNeg, Int.reduceLT, Int.reduceLE, Int.reduceEq, reduceCtorEq]
  exact hK _ _ ⟨ho2, Own.new ho k1 k2⟩
theorem rem128 (m : Nat) : IntKind.u8.wrap (IntKind.u8.wrap ((m : Int).tmod 128) + 128) = (UInt8.ofNat (m % 128 + 128)).toNat := by
  have : (m : Int).tmod 128 = ((m % 128 : Nat) : Int) := by rw [Int.ofNat_tmod]; rfl
  rw [this, IntKind.wrap_u8, IntKind.wrap_u8]; simp
theorem quo128 (m : Nat) : (m : Int).tdiv 128 = ((m / 128 : Nat) : Int) := by rw [Int.ofNat_tdiv]; rfl
theorem refSmall_spec (x : Nat) (hx : x < 2 ^ 64) (H : Heap) : WC Try.prog 70 [.int .u64 x] H fun r H' => Ob H.length H' r (small x) ∧ Keep none H H' := by
  refine WC_of_K fun K hK => ?_
  refine WC_of_body hT Try.func70 rfl (by simp [Try.f70]) (by simp [Try.f70]) (wx_sound hT _ ?_)
  simp only [Try.f70]
  simp only [go_sem, Nat.reduceLT, Nat.reduceEqDiff, Nat.reduceAdd, Nat.reduceMul, Nat.reduceSub, Nat.reduceLeDiff, Int.reduceToNat, Int.reduceNeg, Int.reduceLT, Int.reduceLE, Int.reduceEq, reduceCtorEq]
  refine WX_loop (fun m fr' H' => ∃ (y : Nat) (v : AV) (pre : List UInt8), m = y ∧ fr'.get 0 = .int .u64 y ∧ fr'.get 3 = v ∧ Ob H.length H' v pre ∧ Keep none H H' ∧ y < 2 ^ 64 ∧ pre ++ small y = small x) x ⟨x, .nils, [], rfl, ?_, ?_, Ob.nils _ _, Keep.refl _ _, hx, rfl⟩ ?_
  · simp only [go_sem, Nat.reduceLT, Nat.reduceEqDiff, Nat.reduceAdd, Nat.reduceMul, Nat.reduceSub, Nat.reduceLeDiff, Int.reduceToNat, Int.reduceNeg, Int.reduceLT, Int.reduceLE, Int.reduceEq, reduceCtorEq]
  · simp only [go_sem, Nat.reduceLT, Nat.reduceEqDiff, Nat.reduceAdd, Nat.reduceMul, Nat.reduceSub, Nat.reduceLeDiff, Int.reduceToNat, Int.reduceNeg, Int.reduceLT, Int.reduceLE, Int.reduceEq, reduceCtorEq]
  · rintro m fr' H' ⟨y, v, pre, rfl, h0, h3, hown, hkeep, hy, hpre⟩
    have hlen : pre.length + (small m).length ≤ 10 := by have := small_len10 hx; rw [← hpre, List.length_append] at this; exact this
    have hpos := small_pos m
    refine wx_sound hT _ ?_
    simp only [go_sem, Nat.reduceLT, Nat.reduceEqDiff, Nat.reduceAdd, Nat.reduceMul, Nat.reduceSub, Nat.reduceLeDiff, Int.reduceToNat, Int.reduceNeg, Int.reduceLT, Int.reduceLE, Int.reduceEq, reduceCtorEq, h0]
    refine IfB_dec (fun hgt => ?_) (fun hle => ?_)
    · simp only [go_sem, Nat.reduceLT, Nat.reduceEqDiff, Nat.reduceAdd, Nat.reduceMul, Nat.reduceSub, Nat.reduceLeDiff, Int.reduceToNat, Int.reduceNeg, Int.reduceLT, Int.reduceLE, Int.reduceEq, reduceCtorEq, h0, h3]
      rw [rem128]
      refine append_ob (r := [UInt8.ofNat (m % 128 + 128)]) (hown.keep0 (Keep.snoc none _ _)) se59 az5 td5 rfl ((snoc_bs _ rfl rfl rfl).src tk59) (by simp; omega) (by have := hkeep.len; simp; omega) ?_
      intro v' H'' hown' hkeep' hfresh
      simp only [go_sem, Nat.reduceLT, Nat.reduceEqDiff, Nat.reduceAdd, Nat.reduceMul, Nat.reduceSub, Nat.reduceLeDiff, Int.reduceToNat, Int.reduceNeg, Int.reduceLT, Int.reduceLE, Int.reduceEq, reduceCtorEq, h0, h3, quo128]
      have hs : small m = UInt8.ofNat (m % 128 + 128) :: small (m / 128) := small_big (by omega)
      refine ⟨m / 128, by omega, m / 128, v', pre ++ [UInt8.ofNat (m % 128 + 128)], rfl, ?_, by simp only [go_sem, Nat.reduceLT, Nat.reduceEqDiff, Nat.reduceAdd, Nat.reduceMul, Nat.reduceSub, Nat.reduceLeDiff, Int.reduceToNat, Int.reduceNeg, Int.reduceLT, Int.reduceLE, Int.reduceEq, reduceCtorEq], hown', ?_, by omega, by rw [← hpre, hs]; simp⟩
      · simp only [go_sem, Nat.reduceLT, Nat.reduceEqDiff, Nat.reduceAdd, Nat.reduceMul, Nat.reduceSub, Nat.reduceLeDiff, Int.reduceToNat, Int.reduceNeg, Int.reduceLT, Int.reduceLE, Int.reduceEq, reduceCtorEq]
        rw [len_u64 _ (by omega)]
      exact Own.new hown (hkeep.trans (Keep.snoc none _ _)) hkeep'
    · simp only [go_sem, Nat.reduceLT, Nat.reduceEqDiff, Nat.reduceAdd, Nat.reduceMul, Nat.reduceSub, Nat.reduceLeDiff, Int.reduceToNat, Int.reduceNeg, Int.reduceLT, Int.reduceLE, Int.reduceEq, reduceCtorEq, h0, h3]
      rw [wrap8 m (by omega)]
      refine append_ob (r := [UInt8.ofNat m]) (hown.keep0 (Keep.snoc none _ _)) se59 az5 td5 rfl ((snoc_bs _ rfl rfl rfl).src tk59) (by simp; omega) (by have := hkeep.len; simp; omega) ?_
      intro v' H'' hown' hkeep' hfresh
      simp only [go_sem, Nat.reduceLT, Nat.reduceEqDiff, Nat.reduceAdd, Nat.reduceMul, Nat.reduceSub, Nat.reduceLeDiff, Int.reduceToNat, Int.reduceNeg, Int.reduceLT, Int.reduceLE, Int.reduceEq, reduceCtorEq, h0, h3]
      rw [← small_low (by omega), hpre] at hown'
      exact hK _ _ ⟨hown', Own.new hown (hkeep.trans (Keep.snoc none _ _)) hkeep'⟩
theorem refText_spec (s : List UInt8) (hs : s.length ≤ 140737488355000) (H : Heap) : WC Try.prog 74 [.str s] H fun r H' => Ob H.length H' r (textL s) ∧ Keep none H H' := by
  refine WC_of_K fun K hK => ?_
  refine WC_of_body hT Try.func74 rfl (by simp [Try.f74]) (by simp [Try.f74]) (wx_sound hT _ ?_)
  simp only [Try.f74]
  simp only [go_sem, Nat.reduceLT, Nat.reduceEqDiff, Nat.reduceAdd, Nat.reduceMul, Nat.reduceSub, Nat.reduceLeDiff, Int.reduceToNat, Int.reduceNeg, Int.reduceLT, Int.reduceLE, Int.reduceEq, reduceCtorEq, len_u64 _ (show s.length < 2 ^ 64 by omega)]
  refine (refSmall_spec s.length (by omega) _).mono ?_
  rintro r H1 ⟨ho, k1⟩
  simp only [go_sem, Nat.reduceLT, Nat.reduceEqDiff, Nat.reduceAdd, Nat.reduceMul, Nat.reduceSub, Nat.reduceLeDiff, Int.reduceToNat, Int.reduceNeg, Int.reduceLT, Int.reduceLE, Int.reduceEq, reduceCtorEq]
  have := small_len10 (n := s.length) (by omega)
  refine append_ob ho se59 az5 td5 rfl (str_src s tk9) (by omega) k1.len ?_
  intro v' H2 ho2 k2 hf
  simp only [go_sem, Nat.reduceLT, Nat.reduceEqDiff, Nat.reduceAdd, Nat.reduceMul, Nat.reduceSub, Nat.reduceLeDiff, Int.reduceToNat, Int.reduceNeg, Int.reduceLT, Int.reduceLE, Int.reduceEq, reduceCtorEq]
  exact hK _ _ ⟨ho2, Own.new ho k1 k2⟩
theorem refSmallP (n : Int) (h0 : 0 ≤ n) (h1 : n < 18446744073709551616) (H : Heap) : WC Try.prog 70 [.int .u64 n] H fun r H' => r = Enc.u8.lst (small n.toNat) ∧ H' = H := by
  have := refSmall_spec n.toNat (by omega) H
  rw [show ((n.toNat : Nat) : Int) = n by omega] at this
  exact WC_froze (Q := fun r => r = _) (this.mono fun r H' ⟨h1, h2⟩ => ⟨_, Thaw.ob h1, h2, rfl⟩)
theorem refTextP (s : List UInt8) (hs : s.length ≤ 140737488355000) (H : Heap) : WC Try.prog 74 [.str s] H fun r H' => r = Enc.u8.lst (textL s) ∧ H' = H :=
  WC_froze (Q := fun r => r = _) ((refText_spec s hs H).mono fun r H' ⟨h1, h2⟩ => ⟨_, Thaw.ob h1, h2, rfl⟩)
/-! ### plain: readers, commands and changes as bytes -/
structure RS where
  l : List UInt8
  bad : Bool
def numsL (l : List Int) : List UInt8 := l.flatMap fun x => small (IntKind.u64.wrap x).toNat
def textsL (l : List (List UInt8)) : List UInt8 := l.flatMap textL
theorem numsL_snoc (l : List Int) (i : Nat) (h : i < l.length) : numsL (l.take (i + 1)) = numsL (l.take i) ++ small (IntKind.u64.wrap l[i]).toNat := by
  rw [numsL, List.take_succ_eq_append_getElem h, List.flatMap_append]; simp [numsL]
theorem textsL_snoc (l : List (List UInt8)) (i : Nat) (h : i < l.length) : textsL (l.take (i + 1)) = textsL (l.take i) ++ textL l[i] := by
  rw [textsL, List.take_succ_eq_append_getElem h, List.flatMap_append]; simp [textsL]
theorem u64w_lt (x : Int) : (IntKind.u64.wrap x).toNat < 2 ^ 64 := by rw [IntKind.wrap_u64]; omega
theorem u64w_cast (x : Int) : (((IntKind.u64.wrap x).toNat : Nat) : Int) = IntKind.u64.wrap x := by rw [IntKind.wrap_u64]; omega
theorem u64w_id {x : Int} (h0 : 0 ≤ x) (h1 : x < 18446744073709551616) : IntKind.u64.wrap x = x := by rw [IntKind.wrap_u64]; omega
theorem numsL_len (l : List Int) : (numsL l).length ≤ 10 * l.length := by
  induction l with
  | nil => simp [numsL]
  | cons x l ih =>
    have := small_len10 (u64w_lt x)
    have e : numsL (x :: l) = small (IntKind.u64.wrap x).toNat ++ numsL l := rfl
    rw [e, List.length_append, List.length_cons]; omega
theorem textL_len {s : List UInt8} (h : s.length < 2 ^ 64) : (textL s).length ≤ s.length + 10 := by
  have := small_len10 h
  rw [textL, List.length_append]; omega
theorem textsL_len {l : List (List UInt8)} {m : Nat} (h : ∀ x ∈ l, x.length ≤ m) (hm : m < 2 ^ 64) : (textsL l).length ≤ (m + 10) * l.length := by
  induction l with
  | nil => simp [textsL]
  | cons x l ih =>
    have h1 := textL_len (s := x) (by have := h x (.head _); omega)
    have h2 := ih fun y hy => h y (.tail _ hy)
    have h3 := h x (.head _)
    have e : textsL (x :: l) = textL x ++ textsL l := rfl
    rw [e, List.length_append, List.length_cons, Nat.mul_add]; omega
/-! #### changes -/
structure Chg where
  kind : Int
  ten : Int
  ikey : List UInt8
  ival : List UInt8
  ifl : Int
  idue : Int
  iuniq : Int
  key : List UInt8
  why : Int
  to : Int
  prim : Bool
def Chg.cs (c : Chg) : List AV := [.int .u8 c.kind, .int .i64 c.ten, .str c.ikey, .str c.ival, .int .u32 c.ifl, .int .i64 c.idue, .int .u64 c.iuniq, .str c.key, .int .u8 c.why, .int .i64 c.to, .bool c.prim]
def Chg.av (c : Chg) : AV := .agg [.int .u8 c.kind, .int .i64 c.ten, .str c.ikey, .str c.ival, .int .u32 c.ifl, .int .i64 c.idue, .int .u64 c.iuniq, .str c.key, .int .u8 c.why, .int .i64 c.to, .bool c.prim]
def chgE : Enc Chg := ⟨11, Chg.cs, fun _ => rfl, fun x a ha => by
  simp only [Chg.cs, List.mem_cons, List.not_mem_nil, or_false] at ha; rcases ha with rfl | rfl | rfl | rfl | rfl | rfl | rfl | rfl | rfl | rfl | rfl <;> rfl⟩
theorem chgE_cells (c : Chg) : chgE.cells c = [.int .u8 c.kind, .int .i64 c.ten, .str c.ikey, .str c.ival, .int .u32 c.ifl, .int .i64 c.idue, .int .u64 c.iuniq, .str c.key, .int .u8 c.why, .int .i64 c.to, .bool c.prim] := rfl
structure Chg.Ok (c : Chg) : Prop where
  kind : 0 ≤ c.kind ∧ c.kind < 256
  ifl : 0 ≤ c.ifl ∧ c.ifl < 4294967296
  iuniq : 0 ≤ c.iuniq ∧ c.iuniq < 18446744073709551616
  why : 0 ≤ c.why ∧ c.why < 256
def chg0 (k : Int) : Chg := ⟨k, 0, [], [], 0, 0, 0, [], 0, 0, false⟩
def Chg.bare (c : Chg) : Chg :=
  if c.kind = 1 then ⟨c.kind, c.ten, c.ikey, c.ival, c.ifl, c.idue, c.iuniq, [], 0, 0, false⟩
  else if c.kind = 2 then ⟨c.kind, c.ten, [], [], 0, 0, 0, c.key, c.why, 0, false⟩
  else if c.kind = 3 then ⟨c.kind, c.ten, [], [], 0, 0, 0, [], 0, 0, false⟩
  else if c.kind = 4 then ⟨c.kind, 0, [], [], 0, 0, 0, [], 0, c.to, false⟩
  else if c.kind = 5 then ⟨c.kind, c.ten, [], [], 0, 0, 0, [], 0, c.to, false⟩
  else if c.kind = 6 then ⟨c.kind, 0, [], [], 0, 0, 0, [], 0, c.to, c.prim⟩
  else if c.kind = 7 then ⟨c.kind, 0, [], [], 0, 0, 0, [], 0, c.to, false⟩ else chg0 c.kind
def Chg.goodP (c : Chg) : Prop :=
  if c.kind = 1 then (1 ≤ c.ikey.length ∧ c.ikey.length ≤ 32) ∧ c.ival.length ≤ 512 ∧ 0 ≤ c.idue ∧ c.idue ≤ 1099511627776
  else if c.kind = 2 then (1 ≤ c.key.length ∧ c.key.length ≤ 32) ∧ (c.why = 1 ∨ c.why = 2)
  else if c.kind = 3 then True
  else if c.kind = 4 then 0 ≤ c.to ∧ c.to ≤ 1099511627776
  else if c.kind = 5 then 0 ≤ c.to ∧ c.to ≤ 16
  else if c.kind = 6 then 0 ≤ c.to ∧ c.to ≤ 2147483647
  else if c.kind = 7 then 0 ≤ c.to ∧ c.to ≤ 2147483647 else False
open Classical in
noncomputable def Chg.mayB (c : Chg) : Bool := decide (c.goodP ∧ (0 ≤ c.ten ∧ c.ten < 4) ∧ c.bare = c)
def Chg.putL (c : Chg) : List UInt8 := UInt8.ofNat c.kind.toNat ::
  (if c.kind = 1 then small c.ten.toNat ++ (textL c.ikey ++ (textL c.ival ++ (small c.ifl.toNat ++ (small c.idue.toNat ++ small c.iuniq.toNat))))
  else if c.kind = 2 then small c.ten.toNat ++ (textL c.key ++ [UInt8.ofNat c.why.toNat])
  else if c.kind = 3 then small c.ten.toNat
  else if c.kind = 4 then small c.to.toNat
  else if c.kind = 5 then small c.ten.toNat ++ small c.to.toNat
  else if c.kind = 6 then small c.to.toNat ++ [if c.prim then 1 else 0]
  else if c.kind = 7 then small c.to.toNat else [])
noncomputable def changesL (l : List Chg) : List UInt8 × Int :=
  if l.length > 4096 then ([], 4) else if l.all Chg.mayB = false then ([], 8)
  else if (small l.length ++ l.flatMap Chg.putL).length > 65536 then ([], 3) else (small l.length ++ l.flatMap Chg.putL, 0)
theorem may_facts {c : Chg} (ho : c.Ok) (h : c.mayB = true) : (1 ≤ c.kind ∧ c.kind ≤ 7) ∧ (0 ≤ c.ten ∧ c.ten < 4) ∧ c.bare = c ∧ c.goodP := by
  simp only [Chg.mayB, decide_eq_true_eq] at h
  obtain ⟨h1, h2, h3⟩ := h
  refine ⟨?_, h2, h3, h1⟩
  unfold Chg.goodP at h1
  have := ho.kind
  refine ⟨?_, ?_⟩ <;> (repeat' split at h1) <;> first | exact h1.elim | omega
structure NumOk (num : Nat → RS → Nat × RS) (wide : RS → Nat × RS) : Prop where
  enc : ∀ m n r b, n < 2 ^ 64 → n ≤ m → num m ⟨small n ++ r, b⟩ = (n, ⟨r, b⟩)
  wenc : ∀ n r b, n < 2 ^ 64 → wide ⟨small n ++ r, b⟩ = (n, ⟨r, b⟩)
  le : ∀ m s, (num m s).1 ≤ m
  wlt : ∀ s, (wide s).1 < 2 ^ 64
/-! ### lists of numbers and texts -/
theorem nums_spec {m : Nat} (v w : AV) (bs : List UInt8) (l : List Int) (H : Heap) (ho : Ob m H v bs) (hm : m ≤ H.length) (hl : Is H w .i64 l) (hne : ∀ b, w.blk = some b → v.blk ≠ some b) (hc : bs.length + 10 * l.length ≤ 140737488355000) :
    WC Try.prog 55 [v, w] H fun r H' => Grow m H v H' r (bs ++ numsL l) := by
  refine WC_of_K fun K hK => ?_
  refine WC_of_body hT Try.func55 rfl (by simp [Try.f55]) (by simp [Try.f55]) (wx_sound hT _ ?_)
  simp only [Try.f55]
  simp only [go_sem, Nat.reduceLT, Nat.reduceEqDiff, Nat.reduceAdd, Nat.reduceMul, Nat.reduceSub, Nat.reduceLeDiff, Int.reduceToNat, Int.reduceNeg, Int.reduceLT, Int.reduceLE, Int.reduceEq, reduceCtorEq]
  rw [hl.alen tk105]
  simp only [go_sem, Nat.reduceLT, Nat.reduceEqDiff, Nat.reduceAdd, Nat.reduceMul, Nat.reduceSub, Nat.reduceLeDiff, Int.reduceToNat, Int.reduceNeg, Int.reduceLT, Int.reduceLE, Int.reduceEq, reduceCtorEq]
  refine WX_loop (fun k fr' H' => ∃ (i : Nat) (a : AV), k = l.length - i ∧ i ≤ l.length ∧ fr'.get 0 = a ∧ fr'.get 7 = w ∧ fr'.get 8 = .int .i64 l.length ∧ fr'.get 9 = .int .i64 i ∧ Grow m H v H' a (bs ++ numsL (l.take i))) l.length ⟨0, v, rfl, by omega, ?_, ?_, ?_, ?_, (Grow.refl ho).eq (by simp [numsL])⟩ ?_
  · simp only [go_sem, Nat.reduceLT, Nat.reduceEqDiff, Nat.reduceAdd, Nat.reduceMul, Nat.reduceSub, Nat.reduceLeDiff, Int.reduceToNat, Int.reduceNeg, Int.reduceLT, Int.reduceLE, Int.reduceEq, reduceCtorEq]
  · simp only [go_sem, Nat.reduceLT, Nat.reduceEqDiff, Nat.reduceAdd, Nat.reduceMul, Nat.reduceSub, Nat.reduceLeDiff, Int.reduceToNat, Int.reduceNeg, Int.reduceLT, Int.reduceLE, Int.reduceEq, reduceCtorEq]
  · simp only [go_sem, Nat.reduceLT, Nat.reduceEqDiff, Nat.reduceAdd, Nat.reduceMul, Nat.reduceSub, Nat.reduceLeDiff, Int.reduceToNat, Int.reduceNeg, Int.reduceLT, Int.reduceLE, Int.reduceEq, reduceCtorEq]
  · simp only [go_sem, Nat.reduceLT, Nat.reduceEqDiff, Nat.reduceAdd, Nat.reduceMul, Nat.reduceSub, Nat.reduceLeDiff, Int.reduceToNat, Int.reduceNeg, Int.reduceLT, Int.reduceLE, Int.reduceEq, reduceCtorEq]
    rfl
  · rintro k fr' H' ⟨i, a, rfl, hi, f0, f7, f8, f9, g⟩
    refine wx_sound hT _ ?_
    simp only [go_sem, Nat.reduceLT, Nat.reduceEqDiff, Nat.reduceAdd, Nat.reduceMul, Nat.reduceSub, Nat.reduceLeDiff, Int.reduceToNat, Int.reduceNeg, Int.reduceLT, Int.reduceLE, Int.reduceEq, reduceCtorEq, f0, f7, f8, f9]
    refine IfB_dec (fun hlt => ?_) (fun hge => ?_)
    · have hlt' : i < l.length := by omega
      obtain ⟨b, o, e1, e2, _⟩ := (Vs.keep hl g.keep hne).at1 se105 hlt' (k := .i64) (z := i) rfl
      have hlen := numsL_len (l.take i)
      rw [List.length_take] at hlen
      have hs := small_len10 (u64w_lt l[i])
      simp only [go_sem, Nat.reduceLT, Nat.reduceEqDiff, Nat.reduceAdd, Nat.reduceMul, Nat.reduceSub, Nat.reduceLeDiff, Int.reduceToNat, Int.reduceNeg, Int.reduceLT, Int.reduceLE, Int.reduceEq, reduceCtorEq, f0, f7, f8, f9, e1, e2]
      rw [← u64w_cast]
      refine (small_spec (IntKind.u64.wrap l[i]).toNat (u64w_lt _) _).mono ?_
      rintro r H1 ⟨o1, k1⟩
      simp only [go_sem, Nat.reduceLT, Nat.reduceEqDiff, Nat.reduceAdd, Nat.reduceMul, Nat.reduceSub, Nat.reduceLeDiff, Int.reduceToNat, Int.reduceNeg, Int.reduceLT, Int.reduceLE, Int.reduceEq, reduceCtorEq]
      refine append_gr (g.own.keep0 k1) se59 az5 td5 rfl (o1.bs.src tk59) (by simp; omega) (by have := g.keep.len; have := k1.len; omega) ?_
      intro v' H2 g2
      simp only [go_sem, Nat.reduceLT, Nat.reduceEqDiff, Nat.reduceAdd, Nat.reduceMul, Nat.reduceSub, Nat.reduceLeDiff, Int.reduceToNat, Int.reduceNeg, Int.reduceLT, Int.reduceLE, Int.reduceEq, reduceCtorEq, f0, f7, f8, f9]
      refine ⟨l.length - (i + 1), by omega, i + 1, v', rfl, by omega, by simp only [go_sem, Nat.reduceLT, Nat.reduceEqDiff, Nat.reduceAdd, Nat.reduceMul, Nat.reduceSub, Nat.reduceLeDiff, Int.reduceToNat, Int.reduceNeg, Int.reduceLT, Int.reduceLE, Int.reduceEq, reduceCtorEq], by simp only [go_sem, Nat.reduceLT, Nat.reduceEqDiff, Nat.reduceAdd, Nat.reduceMul, Nat.reduceSub, Nat.reduceLeDiff, Int.reduceToNat, Int.reduceNeg, Int.reduceLT, Int.reduceLE, Int.reduceEq, reduceCtorEq, f7], by simp only [go_sem, Nat.reduceLT, Nat.reduceEqDiff, Nat.reduceAdd, Nat.reduceMul, Nat.reduceSub, Nat.reduceLeDiff, Int.reduceToNat, Int.reduceNeg, Int.reduceLT, Int.reduceLE, Int.reduceEq, reduceCtorEq, f8], ?_, (g.trans (Grow.pre k1 g2)).eq ?_⟩
      · simp only [go_sem, Nat.reduceLT, Nat.reduceEqDiff, Nat.reduceAdd, Nat.reduceMul, Nat.reduceSub, Nat.reduceLeDiff, Int.reduceToNat, Int.reduceNeg, Int.reduceLT, Int.reduceLE, Int.reduceEq, reduceCtorEq]
        rw [i64_id (i + 1 : Int) (by omega) (by omega)]; rfl
      · rw [numsL_snoc l i hlt']; simp
    · have : i = l.length := by omega
      subst this
      simp only [go_sem, Nat.reduceLT, Nat.reduceEqDiff, Nat.reduceAdd, Nat.reduceMul, Nat.reduceSub, Nat.reduceLeDiff, Int.reduceToNat, Int.reduceNeg, Int.reduceLT, Int.reduceLE, Int.reduceEq, reduceCtorEq, f0]
      rw [List.take_length] at g
      exact hK _ _ g
theorem texts_spec {m : Nat} (v w : AV) (bs : List UInt8) (l : List (List UInt8)) (H : Heap) (ho : Ob m H v bs) (hm : m ≤ H.length) (hl : Ss H w l) (hne : ∀ b, w.blk = some b → v.blk ≠ some b) (hc : bs.length + (textsL l).length ≤ 140737488354000) (hln : l.length ≤ 140737488355328) :
    WC Try.prog 69 [v, w] H fun r H' => Grow m H v H' r (bs ++ textsL l) := by
  refine WC_of_K fun K hK => ?_
  refine WC_of_body hT Try.func69 rfl (by simp [Try.f69]) (by simp [Try.f69]) (wx_sound hT _ ?_)
  simp only [Try.f69]
  simp only [go_sem, Nat.reduceLT, Nat.reduceEqDiff, Nat.reduceAdd, Nat.reduceMul, Nat.reduceSub, Nat.reduceLeDiff, Int.reduceToNat, Int.reduceNeg, Int.reduceLT, Int.reduceLE, Int.reduceEq, reduceCtorEq]
  rw [hl.alen tk113]
  simp only [go_sem, Nat.reduceLT, Nat.reduceEqDiff, Nat.reduceAdd, Nat.reduceMul, Nat.reduceSub, Nat.reduceLeDiff, Int.reduceToNat, Int.reduceNeg, Int.reduceLT, Int.reduceLE, Int.reduceEq, reduceCtorEq]
  refine WX_loop (fun k fr' H' => ∃ (i : Nat) (a : AV), k = l.length - i ∧ i ≤ l.length ∧ fr'.get 0 = a ∧ fr'.get 7 = w ∧ fr'.get 8 = .int .i64 l.length ∧ fr'.get 9 = .int .i64 i ∧ Grow m H v H' a (bs ++ textsL (l.take i))) l.length ⟨0, v, rfl, by omega, ?_, ?_, ?_, ?_, (Grow.refl ho).eq (by simp [textsL])⟩ ?_
  · simp only [go_sem, Nat.reduceLT, Nat.reduceEqDiff, Nat.reduceAdd, Nat.reduceMul, Nat.reduceSub, Nat.reduceLeDiff, Int.reduceToNat, Int.reduceNeg, Int.reduceLT, Int.reduceLE, Int.reduceEq, reduceCtorEq]
  · simp only [go_sem, Nat.reduceLT, Nat.reduceEqDiff, Nat.reduceAdd, Nat.reduceMul, Nat.reduceSub, Nat.reduceLeDiff, Int.reduceToNat, Int.reduceNeg, Int.reduceLT, Int.reduceLE, Int.reduceEq, reduceCtorEq]
  · simp only [go_sem, Nat.reduceLT, Nat.reduceEqDiff, Nat.reduceAdd, Nat.reduceMul, Nat.reduceSub, Nat.reduceLeDiff, Int.reduceToNat, Int.reduceNeg, Int.reduceLT, Int.reduceLE, Int.reduceEq, reduceCtorEq]
  · simp only [go_sem, Nat.reduceLT, Nat.reduceEqDiff, Nat.reduceAdd, Nat.reduceMul, Nat.reduceSub, Nat.reduceLeDiff, Int.reduceToNat, Int.reduceNeg, Int.reduceLT, Int.reduceLE, Int.reduceEq, reduceCtorEq]
    rfl
  · rintro k fr' H' ⟨i, a, rfl, hi, f0, f7, f8, f9, g⟩
    refine wx_sound hT _ ?_
    simp only [go_sem, Nat.reduceLT, Nat.reduceEqDiff, Nat.reduceAdd, Nat.reduceMul, Nat.reduceSub, Nat.reduceLeDiff, Int.reduceToNat, Int.reduceNeg, Int.reduceLT, Int.reduceLE, Int.reduceEq, reduceCtorEq, f0, f7, f8, f9]
    refine IfB_dec (fun hlt => ?_) (fun hge => ?_)
    · have hlt' : i < l.length := by omega
      obtain ⟨b, o, e1, e2, _⟩ := (Vs.keep hl g.keep hne).at1 se113 hlt' (k := .i64) (z := i) rfl
      have hsum : (textsL l).length = (textsL (l.take i)).length + (textL l[i]).length + (textsL (l.drop (i + 1))).length := by
        have : textsL l = textsL (l.take (i + 1)) ++ textsL (l.drop (i + 1)) := by rw [textsL, textsL, textsL, ← List.flatMap_append, List.take_append_drop]
        rw [this, textsL_snoc l i hlt', List.length_append, List.length_append]
      have hone : (textL l[i]).length = (small l[i].length).length + l[i].length := by simp [textL]
      simp only [go_sem, Nat.reduceLT, Nat.reduceEqDiff, Nat.reduceAdd, Nat.reduceMul, Nat.reduceSub, Nat.reduceLeDiff, Int.reduceToNat, Int.reduceNeg, Int.reduceLT, Int.reduceLE, Int.reduceEq, reduceCtorEq, f0, f7, f8, f9, e1, e2]
      refine (text_spec l[i] (by omega) _).mono ?_
      rintro r H1 ⟨o1, k1⟩
      simp only [go_sem, Nat.reduceLT, Nat.reduceEqDiff, Nat.reduceAdd, Nat.reduceMul, Nat.reduceSub, Nat.reduceLeDiff, Int.reduceToNat, Int.reduceNeg, Int.reduceLT, Int.reduceLE, Int.reduceEq, reduceCtorEq]
      refine append_gr (g.own.keep0 k1) se59 az5 td5 rfl (o1.bs.src tk59) (by rw [List.length_append]; omega) (by have := g.keep.len; have := k1.len; omega) ?_
      intro v' H2 g2
      simp only [go_sem, Nat.reduceLT, Nat.reduceEqDiff, Nat.reduceAdd, Nat.reduceMul, Nat.reduceSub, Nat.reduceLeDiff, Int.reduceToNat, Int.reduceNeg, Int.reduceLT, Int.reduceLE, Int.reduceEq, reduceCtorEq, f0, f7, f8, f9]
      refine ⟨l.length - (i + 1), by omega, i + 1, v', rfl, by omega, by simp only [go_sem, Nat.reduceLT, Nat.reduceEqDiff, Nat.reduceAdd, Nat.reduceMul, Nat.reduceSub, Nat.reduceLeDiff, Int.reduceToNat, Int.reduceNeg, Int.reduceLT, Int.reduceLE, Int.reduceEq, reduceCtorEq], by simp only [go_sem, Nat.reduceLT, Nat.reduceEqDiff, Nat.reduceAdd, Nat.reduceMul, Nat.reduceSub, Nat.reduceLeDiff, Int.reduceToNat, Int.reduceNeg, Int.reduceLT, Int.reduceLE, Int.reduceEq, reduceCtorEq, f7], by simp only [go_sem, Nat.reduceLT, Nat.reduceEqDiff, Nat.reduceAdd, Nat.reduceMul, Nat.reduceSub, Nat.reduceLeDiff, Int.reduceToNat, Int.reduceNeg, Int.reduceLT, Int.reduceLE, Int.reduceEq, reduceCtorEq, f8], ?_, (g.trans (Grow.pre k1 g2)).eq ?_⟩
      · simp only [go_sem, Nat.reduceLT, Nat.reduceEqDiff, Nat.reduceAdd, Nat.reduceMul, Nat.reduceSub, Nat.reduceLeDiff, Int.reduceToNat, Int.reduceNeg, Int.reduceLT, Int.reduceLE, Int.reduceEq, reduceCtorEq]
        rw [i64_id (i + 1 : Int) (by omega) (by omega)]; rfl
      · rw [textsL_snoc l i hlt']; simp
    · have : i = l.length := by omega
      subst this
      simp only [go_sem, Nat.reduceLT, Nat.reduceEqDiff, Nat.reduceAdd, Nat.reduceMul, Nat.reduceSub, Nat.reduceLeDiff, Int.reduceToNat, Int.reduceNeg, Int.reduceLT, Int.reduceLE, Int.reduceEq, reduceCtorEq, f0]
      rw [List.take_length] at g
      exact hK _ _ g
theorem in_spec (n k : Int) (H : Heap) : WC Try.prog 66 [.int .i64 n, .int .i64 k] H fun r H' => r = .bool (decide (0 ≤ n ∧ n ≤ k)) ∧ H' = H := by
  refine WC_of_K fun K hK => ?_
  refine WC_of_body hT Try.func66 rfl (by simp [Try.f66]) (by simp [Try.f66]) (wx_sound hT _ ?_)
  simp only [Try.f66]
  simp only [go_sem, Nat.reduceLT, Nat.reduceEqDiff, Nat.reduceAdd, Nat.reduceMul, Nat.reduceSub, Nat.reduceLeDiff, Int.reduceToNat, Int.reduceNeg, Int.reduceLT, Int.reduceLE, Int.reduceEq, reduceCtorEq]
  refine Guard_dec (fun h => ?_) (fun h => ?_)
  · simp only [go_sem, Nat.reduceLT, Nat.reduceEqDiff, Nat.reduceAdd, Nat.reduceMul, Nat.reduceSub, Nat.reduceLeDiff, Int.reduceToNat, Int.reduceNeg, Int.reduceLT, Int.reduceLE, Int.reduceEq, reduceCtorEq, h]
    refine hK _ _ ⟨?_, rfl⟩
    simp [h]
  · simp only [go_sem, Nat.reduceLT, Nat.reduceEqDiff, Nat.reduceAdd, Nat.reduceMul, Nat.reduceSub, Nat.reduceLeDiff, Int.reduceToNat, Int.reduceNeg, Int.reduceLT, Int.reduceLE, Int.reduceEq, reduceCtorEq, h]
    refine hK _ _ ⟨?_, rfl⟩
    simp; omega

theorem refNums_spec (w : AV) (l : List Int) (H : Heap) (hl : Is H w .i64 l) (hc : l.length ≤ 1000000) :
    WC Try.prog 62 [w] H fun r H' => Ob H.length H' r (numsL l) ∧ Keep none H H' := by
  refine WC_of_K fun K hK => ?_
  refine WC_of_body hT Try.func62 rfl (by simp [Try.f62]) (by simp [Try.f62]) (wx_sound hT _ ?_)
  simp only [Try.f62]
  simp only [go_sem, Nat.reduceLT, Nat.reduceEqDiff, Nat.reduceAdd, Nat.reduceMul, Nat.reduceSub, Nat.reduceLeDiff, Int.reduceToNat, Int.reduceNeg, Int.reduceLT, Int.reduceLE, Int.reduceEq, reduceCtorEq]
  refine WX_loop (fun k fr' H' => ∃ (i : Nat) (a : AV), k = l.length - i ∧ i ≤ l.length ∧ fr'.get 3 = a ∧ fr'.get 0 = w ∧ fr'.get 4 = .int .i64 i ∧ Grow H.length H .nils H' a (numsL (l.take i))) l.length ⟨0, .nils, rfl, by omega, ?_, ?_, ?_, (Grow.refl (Ob.nils _ _)).eq (by simp [numsL])⟩ ?_
  · simp only [go_sem, Nat.reduceLT, Nat.reduceEqDiff, Nat.reduceAdd, Nat.reduceMul, Nat.reduceSub, Nat.reduceLeDiff, Int.reduceToNat, Int.reduceNeg, Int.reduceLT, Int.reduceLE, Int.reduceEq, reduceCtorEq]
  · simp only [go_sem, Nat.reduceLT, Nat.reduceEqDiff, Nat.reduceAdd, Nat.reduceMul, Nat.reduceSub, Nat.reduceLeDiff, Int.reduceToNat, Int.reduceNeg, Int.reduceLT, Int.reduceLE, Int.reduceEq, reduceCtorEq]
  · simp only [go_sem, Nat.reduceLT, Nat.reduceEqDiff, Nat.reduceAdd, Nat.reduceMul, Nat.reduceSub, Nat.reduceLeDiff, Int.reduceToNat, Int.reduceNeg, Int.reduceLT, Int.reduceLE, Int.reduceEq, reduceCtorEq]
    rfl
  · rintro k fr' H' ⟨i, a, rfl, hi, f3, f0, f4, g⟩
    refine wx_sound hT _ ?_
    have hl' : Is H' w .i64 l := Vs.keep hl g.keep (fun b _ => by simp [AV.blk])
    simp only [go_sem, Nat.reduceLT, Nat.reduceEqDiff, Nat.reduceAdd, Nat.reduceMul, Nat.reduceSub, Nat.reduceLeDiff, Int.reduceToNat, Int.reduceNeg, Int.reduceLT, Int.reduceLE, Int.reduceEq, reduceCtorEq, f3, f0, f4, hl'.alen tk105]
    refine IfB_dec (fun hlt => ?_) (fun hge => ?_)
    · have hlt' : i < l.length := by omega
      obtain ⟨b, o, e1, e2, _⟩ := Vs.at1 hl' se105 hlt' (k := .i64) (z := i) rfl
      have hlen := numsL_len (l.take i)
      rw [List.length_take] at hlen
      have hs := small_len10 (u64w_lt l[i])
      simp only [go_sem, Nat.reduceLT, Nat.reduceEqDiff, Nat.reduceAdd, Nat.reduceMul, Nat.reduceSub, Nat.reduceLeDiff, Int.reduceToNat, Int.reduceNeg, Int.reduceLT, Int.reduceLE, Int.reduceEq, reduceCtorEq, f3, f0, f4, e1, e2]
      rw [← u64w_cast]
      refine (refSmall_spec (IntKind.u64.wrap l[i]).toNat (u64w_lt _) _).mono ?_
      rintro r H1 ⟨o1, k1⟩
      simp only [go_sem, Nat.reduceLT, Nat.reduceEqDiff, Nat.reduceAdd, Nat.reduceMul, Nat.reduceSub, Nat.reduceLeDiff, Int.reduceToNat, Int.reduceNeg, Int.reduceLT, Int.reduceLE, Int.reduceEq, reduceCtorEq]
      refine append_gr (g.own.keep0 k1) se59 az5 td5 rfl (o1.bs.src tk59) (by omega) (by have := g.keep.len; have := k1.len; omega) ?_
      intro v' H2 g2
      simp only [go_sem, Nat.reduceLT, Nat.reduceEqDiff, Nat.reduceAdd, Nat.reduceMul, Nat.reduceSub, Nat.reduceLeDiff, Int.reduceToNat, Int.reduceNeg, Int.reduceLT, Int.reduceLE, Int.reduceEq, reduceCtorEq, f3, f0, f4]
      refine ⟨l.length - (i + 1), by omega, i + 1, v', rfl, by omega, by simp only [go_sem, Nat.reduceLT, Nat.reduceEqDiff, Nat.reduceAdd, Nat.reduceMul, Nat.reduceSub, Nat.reduceLeDiff, Int.reduceToNat, Int.reduceNeg, Int.reduceLT, Int.reduceLE, Int.reduceEq, reduceCtorEq], by simp only [go_sem, Nat.reduceLT, Nat.reduceEqDiff, Nat.reduceAdd, Nat.reduceMul, Nat.reduceSub, Nat.reduceLeDiff, Int.reduceToNat, Int.reduceNeg, Int.reduceLT, Int.reduceLE, Int.reduceEq, reduceCtorEq, f0], ?_, (g.trans (Grow.pre k1 g2)).eq ?_⟩
      · simp only [go_sem, Nat.reduceLT, Nat.reduceEqDiff, Nat.reduceAdd, Nat.reduceMul, Nat.reduceSub, Nat.reduceLeDiff, Int.reduceToNat, Int.reduceNeg, Int.reduceLT, Int.reduceLE, Int.reduceEq, reduceCtorEq]
        rw [i64_id (i + 1 : Int) (by omega) (by omega)]; rfl
      · rw [numsL_snoc l i hlt']
    · have : i = l.length := by omega
      subst this
      simp only [go_sem, Nat.reduceLT, Nat.reduceEqDiff, Nat.reduceAdd, Nat.reduceMul, Nat.reduceSub, Nat.reduceLeDiff, Int.reduceToNat, Int.reduceNeg, Int.reduceLT, Int.reduceLE, Int.reduceEq, reduceCtorEq, f3]
      rw [List.take_length] at g
      exact hK _ _ ⟨g.own, g.keep⟩
/-! ### who may be -/
theorem tenanted_spec (n : Int) (H : Heap) : WC Try.prog 67 [.int .i64 n] H fun r H' => r = .bool (decide (0 ≤ n ∧ n < 4)) ∧ H' = H := by
  refine WC_of_K fun K hK => ?_
  refine WC_of_body hT Try.func67 rfl (by simp [Try.f67]) (by simp [Try.f67]) (wx_sound hT _ ?_)
  simp only [Try.f67]
  simp only [go_sem, Nat.reduceLT, Nat.reduceEqDiff, Nat.reduceAdd, Nat.reduceMul, Nat.reduceSub, Nat.reduceLeDiff, Int.reduceToNat, Int.reduceNeg, Int.reduceLT, Int.reduceLE, Int.reduceEq, reduceCtorEq]
  refine Guard_split (fun h => ?_) (fun h => ?_)
  · simp only [go_sem, Nat.reduceLT, Nat.reduceEqDiff, Nat.reduceAdd, Nat.reduceMul, Nat.reduceSub, Nat.reduceLeDiff, Int.reduceToNat, Int.reduceNeg, Int.reduceLT, Int.reduceLE, Int.reduceEq, reduceCtorEq, h]
    refine hK _ _ ⟨?_, rfl⟩
    simp at h; simp [h]
  · simp only [go_sem, Nat.reduceLT, Nat.reduceEqDiff, Nat.reduceAdd, Nat.reduceMul, Nat.reduceSub, Nat.reduceLeDiff, Int.reduceToNat, Int.reduceNeg, Int.reduceLT, Int.reduceLE, Int.reduceEq, reduceCtorEq, h]
    refine hK _ _ ⟨?_, rfl⟩
    simp at h; simp; omega
theorem refTenant_spec (n : Int) (H : Heap) : WC Try.prog 60 [.int .i64 n] H fun r H' => r = .bool (decide (0 ≤ n ∧ n < 4)) ∧ H' = H := by
  refine WC_of_K fun K hK => ?_
  refine WC_of_body hT Try.func60 rfl (by simp [Try.f60]) (by simp [Try.f60]) (wx_sound hT _ ?_)
  simp only [Try.f60]
  simp only [go_sem, Nat.reduceLT, Nat.reduceEqDiff, Nat.reduceAdd, Nat.reduceMul, Nat.reduceSub, Nat.reduceLeDiff, Int.reduceToNat, Int.reduceNeg, Int.reduceLT, Int.reduceLE, Int.reduceEq, reduceCtorEq]
  refine Guard_split (fun h => ?_) (fun h => ?_)
  · simp only [go_sem, Nat.reduceLT, Nat.reduceEqDiff, Nat.reduceAdd, Nat.reduceMul, Nat.reduceSub, Nat.reduceLeDiff, Int.reduceToNat, Int.reduceNeg, Int.reduceLT, Int.reduceLE, Int.reduceEq, reduceCtorEq, h]
    refine hK _ _ ⟨?_, rfl⟩
    simp at h; simp [h]
  · simp only [go_sem, Nat.reduceLT, Nat.reduceEqDiff, Nat.reduceAdd, Nat.reduceMul, Nat.reduceSub, Nat.reduceLeDiff, Int.reduceToNat, Int.reduceNeg, Int.reduceLT, Int.reduceLE, Int.reduceEq, reduceCtorEq, h]
    refine hK _ _ ⟨?_, rfl⟩
    simp at h; simp; omega
def keyB (s : List UInt8) : Bool := decide (1 ≤ s.length ∧ s.length ≤ 32)
theorem keyed_spec (s : List UInt8) (H : Heap) : WC Try.prog 65 [.str s] H fun r H' => r = .bool (keyB s) ∧ H' = H := by
  refine WC_of_K fun K hK => ?_
  refine WC_of_body hT Try.func65 rfl (by simp [Try.f65]) (by simp [Try.f65]) (wx_sound hT _ ?_)
  simp only [Try.f65]
  simp only [go_sem, Nat.reduceLT, Nat.reduceEqDiff, Nat.reduceAdd, Nat.reduceMul, Nat.reduceSub, Nat.reduceLeDiff, Int.reduceToNat, Int.reduceNeg, Int.reduceLT, Int.reduceLE, Int.reduceEq, reduceCtorEq]
  refine Guard_split (fun h => ?_) (fun h => ?_)
  · simp only [go_sem, Nat.reduceLT, Nat.reduceEqDiff, Nat.reduceAdd, Nat.reduceMul, Nat.reduceSub, Nat.reduceLeDiff, Int.reduceToNat, Int.reduceNeg, Int.reduceLT, Int.reduceLE, Int.reduceEq, reduceCtorEq, h]
    refine hK _ _ ⟨?_, rfl⟩
    simp at h; have := List.length_pos_iff.2 h
    refine congrArg AV.bool ?_; rw [Bool.eq_iff_iff]; simp [keyB]; omega
  · simp only [go_sem, Nat.reduceLT, Nat.reduceEqDiff, Nat.reduceAdd, Nat.reduceMul, Nat.reduceSub, Nat.reduceLeDiff, Int.reduceToNat, Int.reduceNeg, Int.reduceLT, Int.reduceLE, Int.reduceEq, reduceCtorEq, h]
    refine hK _ _ ⟨?_, rfl⟩
    simp at h; subst h; simp [keyB]
theorem refKey_spec (s : List UInt8) (H : Heap) : WC Try.prog 61 [.str s] H fun r H' => r = .bool (keyB s) ∧ H' = H := by
  refine WC_of_K fun K hK => ?_
  refine WC_of_body hT Try.func61 rfl (by simp [Try.f61]) (by simp [Try.f61]) (wx_sound hT _ ?_)
  simp only [Try.f61]
  simp only [go_sem, Nat.reduceLT, Nat.reduceEqDiff, Nat.reduceAdd, Nat.reduceMul, Nat.reduceSub, Nat.reduceLeDiff, Int.reduceToNat, Int.reduceNeg, Int.reduceLT, Int.reduceLE, Int.reduceEq, reduceCtorEq]
  refine Guard_split (fun h => ?_) (fun h => ?_)
  · simp only [go_sem, Nat.reduceLT, Nat.reduceEqDiff, Nat.reduceAdd, Nat.reduceMul, Nat.reduceSub, Nat.reduceLeDiff, Int.reduceToNat, Int.reduceNeg, Int.reduceLT, Int.reduceLE, Int.reduceEq, reduceCtorEq, h]
    refine hK _ _ ⟨?_, rfl⟩
    simp at h
    refine congrArg AV.bool ?_; rw [Bool.eq_iff_iff]; simp [keyB]; omega
  · simp only [go_sem, Nat.reduceLT, Nat.reduceEqDiff, Nat.reduceAdd, Nat.reduceMul, Nat.reduceSub, Nat.reduceLeDiff, Int.reduceToNat, Int.reduceNeg, Int.reduceLT, Int.reduceLE, Int.reduceEq, reduceCtorEq, h]
    refine hK _ _ ⟨?_, rfl⟩
    simp at h
    refine congrArg AV.bool ?_; rw [Bool.eq_iff_iff]; simp [keyB]; omega

/-! ### the hash -/
def hstep (h : Int) (b : UInt8) : Int := IntKind.u64.wrap (IntKind.u64.wrap (BitVec.ofInt IntKind.u64.bits h ^^^ BitVec.ofInt IntKind.u64.bits (IntKind.u64.wrap b.toNat)).toNat * 1099511628211)
def hash (s : List UInt8) : Int := s.foldl hstep 14695981039346656037
/-! ### shards -/
theorem u8_src {H : Heap} {t e : TypeId} {l : List UInt8} (hk : tk T t = .slice e) : asrc T H t (Enc.u8.lst l) 1 = some (l.length, byc l) := by
  have := src_enc (E := Enc.u8) (T := T) (H := H) (xs := l) hk
  rw [Enc.u8_row] at this; exact this
/-! ### changes: may they be? -/
theorem may_spec (c : Chg) (H : Heap) : WC Try.prog 54 [c.av] H fun r H' => r = .bool c.mayB ∧ H' = H := by
  refine WC_val fun K hK => ?_
  obtain ⟨kind, ten, ikey, ival, ifl, idue, iuniq, key, why, to, prim⟩ := c
  unfold Chg.av
  simp only
  by_cases k1 : kind = 1
  · subst k1
    refine WC_of_body hT Try.func54 rfl (by simp [Try.f54]) (by simp [Try.f54]) (wx_sound hT _ ?_)
    simp only [Try.f54]
    repeat' (first | simp only [go_sem, Nat.reduceLT, Nat.reduceEqDiff, Nat.reduceAdd, Nat.reduceMul, Nat.reduceSub, Nat.reduceLeDiff, Int.reduceToNat, Int.reduceNeg, Int.reduceLT, Int.reduceLE, Int.reduceEq, reduceCtorEq, Int.natCast_zero, Int.natCast_one, Int.cast_ofNat_Int, Bool.not_not, false_eq_decide, true_eq_decide, hread0, hreadk, read_cons0, read_consk, astore_h0, astore_hk, hget0, hgetk, hset0, hsetk, hlen, hcat, Nat.add_assoc, Nat.add_zero, Nat.zero_add, List.length_append, and_true, true_and, AV.flat, *, -hK] | with_reducible refine IfB_dec (fun h => ?_) (fun h => ?_) | with_reducible refine Guard_dec (fun h => ?_) (fun h => ?_) | with_reducible refine Guard_ndec (fun h => ?_) (fun h => ?_) | with_reducible refine Guard_not (fun h => ?_) (fun h => ?_) | with_reducible refine IfB_ndec (fun h => ?_) (fun h => ?_) | with_reducible refine IfB_not (fun h => ?_) (fun h => ?_) | with_reducible refine Guard_split (fun h => ?_) (fun h => ?_) | with_reducible refine IfB_split (fun h => ?_) (fun h => ?_))
    refine WX_rows hT hmix [(0, none), (1, none), (2, none), (3, none), (4, none), (5, some [true, false, false, true, true]), (6, none), (7, some [true, true, true, true, true, true, true])] (by kernel_rfl) ?_
    repeat' (first | simp only [go_sem, Nat.reduceLT, Nat.reduceEqDiff, Nat.reduceAdd, Nat.reduceMul, Nat.reduceSub, Nat.reduceLeDiff, Int.reduceToNat, Int.reduceNeg, Int.reduceLT, Int.reduceLE, Int.reduceEq, reduceCtorEq, Int.natCast_zero, Int.natCast_one, Int.cast_ofNat_Int, Bool.not_not, false_eq_decide, true_eq_decide, hread0, hreadk, read_cons0, read_consk, astore_h0, astore_hk, hget0, hgetk, hset0, hsetk, hlen, hcat, Nat.add_assoc, Nat.add_zero, Nat.zero_add, List.length_append, and_true, true_and, AV.flat, *, -hK] | refine WC.call (keyed_spec _ _) ?_ | refine WC.call (in_spec _ _ _) ?_ | refine WC.call (tenanted_spec _ _) ?_ | with_reducible refine IfB_dec (fun h => ?_) (fun h => ?_) | with_reducible refine Guard_dec (fun h => ?_) (fun h => ?_) | with_reducible refine Guard_ndec (fun h => ?_) (fun h => ?_) | with_reducible refine Guard_not (fun h => ?_) (fun h => ?_) | with_reducible refine IfB_ndec (fun h => ?_) (fun h => ?_) | with_reducible refine IfB_not (fun h => ?_) (fun h => ?_) | with_reducible refine Guard_split (fun h => ?_) (fun h => ?_) | with_reducible refine IfB_split (fun h => ?_) (fun h => ?_))
    all_goals
      refine hK _ _ (Thaw.of_eq ?_ rfl) (Keep.app _ _ _)
      clear hK
      congr 1
      simp only [Chg.mayB, Chg.goodP, Chg.bare, keyB, Int.reduceEq, if_true, if_false, Chg.mk.injEq, true_and, and_true, decide_eq_true_eq, decide_eq_false_iff_not] at *
      try symm
      first
        | (rw [decide_eq_false_iff_not]; omega)
        | (rw [Bool.eq_iff_iff]; simp only [Bool.and_eq_true, decide_eq_true_eq]; first | exact ⟨fun h => by simpa only [and_assoc] using h.2.2, fun h => ⟨by omega, by omega, by simpa only [and_assoc] using h⟩⟩ | exact ⟨fun h => by simpa only [and_assoc] using h.2, fun h => ⟨by omega, by simpa only [and_assoc] using h⟩⟩)
  by_cases k2 : kind = 2
  · subst k2
    refine WC_of_body hT Try.func54 rfl (by simp [Try.f54]) (by simp [Try.f54]) (wx_sound hT _ ?_)
    simp only [Try.f54]
    repeat' (first | simp only [go_sem, Nat.reduceLT, Nat.reduceEqDiff, Nat.reduceAdd, Nat.reduceMul, Nat.reduceSub, Nat.reduceLeDiff, Int.reduceToNat, Int.reduceNeg, Int.reduceLT, Int.reduceLE, Int.reduceEq, reduceCtorEq, Int.natCast_zero, Int.natCast_one, Int.cast_ofNat_Int, Bool.not_not, false_eq_decide, true_eq_decide, hread0, hreadk, read_cons0, read_consk, astore_h0, astore_hk, hget0, hgetk, hset0, hsetk, hlen, hcat, Nat.add_assoc, Nat.add_zero, Nat.zero_add, List.length_append, and_true, true_and, AV.flat, *, -hK] | with_reducible refine IfB_dec (fun h => ?_) (fun h => ?_) | with_reducible refine Guard_dec (fun h => ?_) (fun h => ?_) | with_reducible refine Guard_ndec (fun h => ?_) (fun h => ?_) | with_reducible refine Guard_not (fun h => ?_) (fun h => ?_) | with_reducible refine IfB_ndec (fun h => ?_) (fun h => ?_) | with_reducible refine IfB_not (fun h => ?_) (fun h => ?_) | with_reducible refine Guard_split (fun h => ?_) (fun h => ?_) | with_reducible refine IfB_split (fun h => ?_) (fun h => ?_))
    refine WX_rows hT hmix [(0, none), (1, none), (2, none), (3, none), (4, none), (5, none), (6, none), (7, some [true, false, false, false, false, true, true]), (8, none), (9, some [true, true, true, false, false, true, true, true, true]), (10, none), (11, some [true, true, true, true, true, true, true, true, true, true, true])] (by kernel_rfl) ?_
    repeat' (first | simp only [go_sem, Nat.reduceLT, Nat.reduceEqDiff, Nat.reduceAdd, Nat.reduceMul, Nat.reduceSub, Nat.reduceLeDiff, Int.reduceToNat, Int.reduceNeg, Int.reduceLT, Int.reduceLE, Int.reduceEq, reduceCtorEq, Int.natCast_zero, Int.natCast_one, Int.cast_ofNat_Int, Bool.not_not, false_eq_decide, true_eq_decide, hread0, hreadk, read_cons0, read_consk, astore_h0, astore_hk, hget0, hgetk, hset0, hsetk, hlen, hcat, Nat.add_assoc, Nat.add_zero, Nat.zero_add, List.length_append, and_true, true_and, AV.flat, *, -hK] | refine WC.call (keyed_spec _ _) ?_ | refine WC.call (in_spec _ _ _) ?_ | refine WC.call (tenanted_spec _ _) ?_ | with_reducible refine IfB_dec (fun h => ?_) (fun h => ?_) | with_reducible refine Guard_dec (fun h => ?_) (fun h => ?_) | with_reducible refine Guard_ndec (fun h => ?_) (fun h => ?_) | with_reducible refine Guard_not (fun h => ?_) (fun h => ?_) | with_reducible refine IfB_ndec (fun h => ?_) (fun h => ?_) | with_reducible refine IfB_not (fun h => ?_) (fun h => ?_) | with_reducible refine Guard_split (fun h => ?_) (fun h => ?_) | with_reducible refine IfB_split (fun h => ?_) (fun h => ?_))
    all_goals
      refine hK _ _ (Thaw.of_eq ?_ rfl) (Keep.app _ _ _)
      clear hK
      congr 1
      simp only [Chg.mayB, Chg.goodP, Chg.bare, keyB, Int.reduceEq, if_true, if_false, Chg.mk.injEq, true_and, and_true, decide_eq_true_eq, decide_eq_false_iff_not] at *
      try symm
      first
        | (rw [decide_eq_false_iff_not]; omega)
        | (rw [Bool.eq_iff_iff]; simp only [Bool.and_eq_true, decide_eq_true_eq]; first | exact ⟨fun h => by simpa only [and_assoc] using h.2.2, fun h => ⟨by omega, by omega, by simpa only [and_assoc] using h⟩⟩ | exact ⟨fun h => by simpa only [and_assoc] using h.2, fun h => ⟨by omega, by simpa only [and_assoc] using h⟩⟩)
  by_cases k3 : kind = 3
  · subst k3
    refine WC_of_body hT Try.func54 rfl (by simp [Try.f54]) (by simp [Try.f54]) (wx_sound hT _ ?_)
    simp only [Try.f54]
    repeat' (first | simp only [go_sem, Nat.reduceLT, Nat.reduceEqDiff, Nat.reduceAdd, Nat.reduceMul, Nat.reduceSub, Nat.reduceLeDiff, Int.reduceToNat, Int.reduceNeg, Int.reduceLT, Int.reduceLE, Int.reduceEq, reduceCtorEq, Int.natCast_zero, Int.natCast_one, Int.cast_ofNat_Int, Bool.not_not, false_eq_decide, true_eq_decide, hread0, hreadk, read_cons0, read_consk, astore_h0, astore_hk, hget0, hgetk, hset0, hsetk, hlen, hcat, Nat.add_assoc, Nat.add_zero, Nat.zero_add, List.length_append, and_true, true_and, AV.flat, *, -hK] | refine WC.call (tenanted_spec _ _) ?_ | with_reducible refine IfB_dec (fun h => ?_) (fun h => ?_) | with_reducible refine Guard_dec (fun h => ?_) (fun h => ?_) | with_reducible refine Guard_ndec (fun h => ?_) (fun h => ?_) | with_reducible refine Guard_not (fun h => ?_) (fun h => ?_) | with_reducible refine IfB_ndec (fun h => ?_) (fun h => ?_) | with_reducible refine IfB_not (fun h => ?_) (fun h => ?_) | with_reducible refine Guard_split (fun h => ?_) (fun h => ?_) | with_reducible refine IfB_split (fun h => ?_) (fun h => ?_))
    all_goals
      refine hK _ _ (Thaw.of_eq ?_ rfl) (Keep.app _ _ _)
      clear hK
      congr 1
      simp only [Chg.mayB, Chg.goodP, Chg.bare, keyB, Int.reduceEq, if_true, if_false, Chg.mk.injEq, true_and, and_true, decide_eq_true_eq, decide_eq_false_iff_not] at *
      try symm
      first
        | (rw [decide_eq_false_iff_not]; omega)
        | (rw [Bool.eq_iff_iff]; simp only [Bool.and_eq_true, decide_eq_true_eq]; first | exact ⟨fun h => by simpa only [and_assoc] using h.2.2, fun h => ⟨by omega, by omega, by simpa only [and_assoc] using h⟩⟩ | exact ⟨fun h => by simpa only [and_assoc] using h.2, fun h => ⟨by omega, by simpa only [and_assoc] using h⟩⟩)
  by_cases k4 : kind = 4
  · subst k4
    refine WC_of_body hT Try.func54 rfl (by simp [Try.f54]) (by simp [Try.f54]) (wx_sound hT _ ?_)
    simp only [Try.f54]
    repeat' (first | simp only [go_sem, Nat.reduceLT, Nat.reduceEqDiff, Nat.reduceAdd, Nat.reduceMul, Nat.reduceSub, Nat.reduceLeDiff, Int.reduceToNat, Int.reduceNeg, Int.reduceLT, Int.reduceLE, Int.reduceEq, reduceCtorEq, Int.natCast_zero, Int.natCast_one, Int.cast_ofNat_Int, Bool.not_not, false_eq_decide, true_eq_decide, hread0, hreadk, read_cons0, read_consk, astore_h0, astore_hk, hget0, hgetk, hset0, hsetk, hlen, hcat, Nat.add_assoc, Nat.add_zero, Nat.zero_add, List.length_append, and_true, true_and, AV.flat, *, -hK] | with_reducible refine IfB_dec (fun h => ?_) (fun h => ?_) | with_reducible refine Guard_dec (fun h => ?_) (fun h => ?_) | with_reducible refine Guard_ndec (fun h => ?_) (fun h => ?_) | with_reducible refine Guard_not (fun h => ?_) (fun h => ?_) | with_reducible refine IfB_ndec (fun h => ?_) (fun h => ?_) | with_reducible refine IfB_not (fun h => ?_) (fun h => ?_) | with_reducible refine Guard_split (fun h => ?_) (fun h => ?_) | with_reducible refine IfB_split (fun h => ?_) (fun h => ?_))
    refine WX_rows hT hmix [(0, none), (1, none), (2, none), (3, none), (5, none), (4, some [false, true, true, false, false]), (6, some [true, true, true, true, true, true]), (7, none)] (by kernel_rfl) ?_
    repeat' (first | simp only [go_sem, Nat.reduceLT, Nat.reduceEqDiff, Nat.reduceAdd, Nat.reduceMul, Nat.reduceSub, Nat.reduceLeDiff, Int.reduceToNat, Int.reduceNeg, Int.reduceLT, Int.reduceLE, Int.reduceEq, reduceCtorEq, Int.natCast_zero, Int.natCast_one, Int.cast_ofNat_Int, Bool.not_not, false_eq_decide, true_eq_decide, hread0, hreadk, read_cons0, read_consk, astore_h0, astore_hk, hget0, hgetk, hset0, hsetk, hlen, hcat, Nat.add_assoc, Nat.add_zero, Nat.zero_add, List.length_append, and_true, true_and, AV.flat, *, -hK] | refine WC.call (keyed_spec _ _) ?_ | refine WC.call (in_spec _ _ _) ?_ | refine WC.call (tenanted_spec _ _) ?_ | with_reducible refine IfB_dec (fun h => ?_) (fun h => ?_) | with_reducible refine Guard_dec (fun h => ?_) (fun h => ?_) | with_reducible refine Guard_ndec (fun h => ?_) (fun h => ?_) | with_reducible refine Guard_not (fun h => ?_) (fun h => ?_) | with_reducible refine IfB_ndec (fun h => ?_) (fun h => ?_) | with_reducible refine IfB_not (fun h => ?_) (fun h => ?_) | with_reducible refine Guard_split (fun h => ?_) (fun h => ?_) | with_reducible refine IfB_split (fun h => ?_) (fun h => ?_))
    all_goals
      refine hK _ _ (Thaw.of_eq ?_ rfl) (Keep.app _ _ _)
      clear hK
      congr 1
      simp only [Chg.mayB, Chg.goodP, Chg.bare, keyB, Int.reduceEq, if_true, if_false, Chg.mk.injEq, true_and, and_true, decide_eq_true_eq, decide_eq_false_iff_not] at *
      try symm
      first
        | (rw [decide_eq_false_iff_not]; omega)
        | (rw [Bool.eq_iff_iff]; simp only [Bool.and_eq_true, decide_eq_true_eq]; first | exact ⟨fun h => by simpa only [and_assoc] using h.2.2, fun h => ⟨by omega, by omega, by simpa only [and_assoc] using h⟩⟩ | exact ⟨fun h => by simpa only [and_assoc] using h.2, fun h => ⟨by omega, by simpa only [and_assoc] using h⟩⟩)
  by_cases k5 : kind = 5
  · subst k5
    refine WC_of_body hT Try.func54 rfl (by simp [Try.f54]) (by simp [Try.f54]) (wx_sound hT _ ?_)
    simp only [Try.f54]
    repeat' (first | simp only [go_sem, Nat.reduceLT, Nat.reduceEqDiff, Nat.reduceAdd, Nat.reduceMul, Nat.reduceSub, Nat.reduceLeDiff, Int.reduceToNat, Int.reduceNeg, Int.reduceLT, Int.reduceLE, Int.reduceEq, reduceCtorEq, Int.natCast_zero, Int.natCast_one, Int.cast_ofNat_Int, Bool.not_not, false_eq_decide, true_eq_decide, hread0, hreadk, read_cons0, read_consk, astore_h0, astore_hk, hget0, hgetk, hset0, hsetk, hlen, hcat, Nat.add_assoc, Nat.add_zero, Nat.zero_add, List.length_append, and_true, true_and, AV.flat, *, -hK] | with_reducible refine IfB_dec (fun h => ?_) (fun h => ?_) | with_reducible refine Guard_dec (fun h => ?_) (fun h => ?_) | with_reducible refine Guard_ndec (fun h => ?_) (fun h => ?_) | with_reducible refine Guard_not (fun h => ?_) (fun h => ?_) | with_reducible refine IfB_ndec (fun h => ?_) (fun h => ?_) | with_reducible refine IfB_not (fun h => ?_) (fun h => ?_) | with_reducible refine Guard_split (fun h => ?_) (fun h => ?_) | with_reducible refine IfB_split (fun h => ?_) (fun h => ?_))
    refine WX_rows hT hmix [(0, none), (1, none), (2, none), (3, none), (4, none), (5, none), (7, none), (6, some [false, true, true, false, false, false, false]), (8, some [true, true, true, true, false, false, true, true]), (9, none), (10, some [true, true, true, true, true, true, true, true, true, true]), (11, none)] (by kernel_rfl) ?_
    repeat' (first | simp only [go_sem, Nat.reduceLT, Nat.reduceEqDiff, Nat.reduceAdd, Nat.reduceMul, Nat.reduceSub, Nat.reduceLeDiff, Int.reduceToNat, Int.reduceNeg, Int.reduceLT, Int.reduceLE, Int.reduceEq, reduceCtorEq, Int.natCast_zero, Int.natCast_one, Int.cast_ofNat_Int, Bool.not_not, false_eq_decide, true_eq_decide, hread0, hreadk, read_cons0, read_consk, astore_h0, astore_hk, hget0, hgetk, hset0, hsetk, hlen, hcat, Nat.add_assoc, Nat.add_zero, Nat.zero_add, List.length_append, and_true, true_and, AV.flat, *, -hK] | refine WC.call (keyed_spec _ _) ?_ | refine WC.call (in_spec _ _ _) ?_ | refine WC.call (tenanted_spec _ _) ?_ | with_reducible refine IfB_dec (fun h => ?_) (fun h => ?_) | with_reducible refine Guard_dec (fun h => ?_) (fun h => ?_) | with_reducible refine Guard_ndec (fun h => ?_) (fun h => ?_) | with_reducible refine Guard_not (fun h => ?_) (fun h => ?_) | with_reducible refine IfB_ndec (fun h => ?_) (fun h => ?_) | with_reducible refine IfB_not (fun h => ?_) (fun h => ?_) | with_reducible refine Guard_split (fun h => ?_) (fun h => ?_) | with_reducible refine IfB_split (fun h => ?_) (fun h => ?_))
    all_goals
      refine hK _ _ (Thaw.of_eq ?_ rfl) (Keep.app _ _ _)
      clear hK
      congr 1
      simp only [Chg.mayB, Chg.goodP, Chg.bare, keyB, Int.reduceEq, if_true, if_false, Chg.mk.injEq, true_and, and_true, decide_eq_true_eq, decide_eq_false_iff_not] at *
      try symm
      first
        | (rw [decide_eq_false_iff_not]; omega)
        | (rw [Bool.eq_iff_iff]; simp only [Bool.and_eq_true, decide_eq_true_eq]; first | exact ⟨fun h => by simpa only [and_assoc] using h.2.2, fun h => ⟨by omega, by omega, by simpa only [and_assoc] using h⟩⟩ | exact ⟨fun h => by simpa only [and_assoc] using h.2, fun h => ⟨by omega, by simpa only [and_assoc] using h⟩⟩)
  by_cases k6 : kind = 6
  · subst k6
    refine WC_of_body hT Try.func54 rfl (by simp [Try.f54]) (by simp [Try.f54]) (wx_sound hT _ ?_)
    simp only [Try.f54]
    repeat' (first | simp only [go_sem, Nat.reduceLT, Nat.reduceEqDiff, Nat.reduceAdd, Nat.reduceMul, Nat.reduceSub, Nat.reduceLeDiff, Int.reduceToNat, Int.reduceNeg, Int.reduceLT, Int.reduceLE, Int.reduceEq, reduceCtorEq, Int.natCast_zero, Int.natCast_one, Int.cast_ofNat_Int, Bool.not_not, false_eq_decide, true_eq_decide, hread0, hreadk, read_cons0, read_consk, astore_h0, astore_hk, hget0, hgetk, hset0, hsetk, hlen, hcat, Nat.add_assoc, Nat.add_zero, Nat.zero_add, List.length_append, and_true, true_and, AV.flat, *, -hK] | with_reducible refine IfB_dec (fun h => ?_) (fun h => ?_) | with_reducible refine Guard_dec (fun h => ?_) (fun h => ?_) | with_reducible refine Guard_ndec (fun h => ?_) (fun h => ?_) | with_reducible refine Guard_not (fun h => ?_) (fun h => ?_) | with_reducible refine IfB_ndec (fun h => ?_) (fun h => ?_) | with_reducible refine IfB_not (fun h => ?_) (fun h => ?_) | with_reducible refine Guard_split (fun h => ?_) (fun h => ?_) | with_reducible refine IfB_split (fun h => ?_) (fun h => ?_))
    refine WX_rows hT hmix [(0, none), (1, none), (2, none), (3, none), (4, none), (5, none), (7, none), (6, some [false, true, true, false, false, false, false]), (8, some [true, true, true, true, false, false, true, true]), (9, none), (10, some [true, true, true, true, true, true, true, true, true, true]), (11, none)] (by kernel_rfl) ?_
    repeat' (first | simp only [go_sem, Nat.reduceLT, Nat.reduceEqDiff, Nat.reduceAdd, Nat.reduceMul, Nat.reduceSub, Nat.reduceLeDiff, Int.reduceToNat, Int.reduceNeg, Int.reduceLT, Int.reduceLE, Int.reduceEq, reduceCtorEq, Int.natCast_zero, Int.natCast_one, Int.cast_ofNat_Int, Bool.not_not, false_eq_decide, true_eq_decide, hread0, hreadk, read_cons0, read_consk, astore_h0, astore_hk, hget0, hgetk, hset0, hsetk, hlen, hcat, Nat.add_assoc, Nat.add_zero, Nat.zero_add, List.length_append, and_true, true_and, AV.flat, *, -hK] | refine WC.call (keyed_spec _ _) ?_ | refine WC.call (in_spec _ _ _) ?_ | refine WC.call (tenanted_spec _ _) ?_ | with_reducible refine IfB_dec (fun h => ?_) (fun h => ?_) | with_reducible refine Guard_dec (fun h => ?_) (fun h => ?_) | with_reducible refine Guard_ndec (fun h => ?_) (fun h => ?_) | with_reducible refine Guard_not (fun h => ?_) (fun h => ?_) | with_reducible refine IfB_ndec (fun h => ?_) (fun h => ?_) | with_reducible refine IfB_not (fun h => ?_) (fun h => ?_) | with_reducible refine Guard_split (fun h => ?_) (fun h => ?_) | with_reducible refine IfB_split (fun h => ?_) (fun h => ?_))
    all_goals
      refine hK _ _ (Thaw.of_eq ?_ rfl) (Keep.app _ _ _)
      clear hK
      congr 1
      simp only [Chg.mayB, Chg.goodP, Chg.bare, keyB, Int.reduceEq, if_true, if_false, Chg.mk.injEq, true_and, and_true, decide_eq_true_eq, decide_eq_false_iff_not] at *
      try symm
      first
        | (rw [decide_eq_false_iff_not]; omega)
        | (rw [Bool.eq_iff_iff]; simp only [Bool.and_eq_true, decide_eq_true_eq]; first | exact ⟨fun h => by simpa only [and_assoc] using h.2.2, fun h => ⟨by omega, by omega, by simpa only [and_assoc] using h⟩⟩ | exact ⟨fun h => by simpa only [and_assoc] using h.2, fun h => ⟨by omega, by simpa only [and_assoc] using h⟩⟩)
  by_cases k7 : kind = 7
  · subst k7
    refine WC_of_body hT Try.func54 rfl (by simp [Try.f54]) (by simp [Try.f54]) (wx_sound hT _ ?_)
    simp only [Try.f54]
    repeat' (first | simp only [go_sem, Nat.reduceLT, Nat.reduceEqDiff, Nat.reduceAdd, Nat.reduceMul, Nat.reduceSub, Nat.reduceLeDiff, Int.reduceToNat, Int.reduceNeg, Int.reduceLT, Int.reduceLE, Int.reduceEq, reduceCtorEq, Int.natCast_zero, Int.natCast_one, Int.cast_ofNat_Int, Bool.not_not, false_eq_decide, true_eq_decide, hread0, hreadk, read_cons0, read_consk, astore_h0, astore_hk, hget0, hgetk, hset0, hsetk, hlen, hcat, Nat.add_assoc, Nat.add_zero, Nat.zero_add, List.length_append, and_true, true_and, AV.flat, *, -hK] | with_reducible refine IfB_dec (fun h => ?_) (fun h => ?_) | with_reducible refine Guard_dec (fun h => ?_) (fun h => ?_) | with_reducible refine Guard_ndec (fun h => ?_) (fun h => ?_) | with_reducible refine Guard_not (fun h => ?_) (fun h => ?_) | with_reducible refine IfB_ndec (fun h => ?_) (fun h => ?_) | with_reducible refine IfB_not (fun h => ?_) (fun h => ?_) | with_reducible refine Guard_split (fun h => ?_) (fun h => ?_) | with_reducible refine IfB_split (fun h => ?_) (fun h => ?_))
    refine WX_rows hT hmix [(0, none), (1, none), (2, none), (3, none), (5, none), (4, some [false, true, true, false, false]), (6, some [true, true, true, true, true, true]), (7, none)] (by kernel_rfl) ?_
    repeat' (first | simp only [go_sem, Nat.reduceLT, Nat.reduceEqDiff, Nat.reduceAdd, Nat.reduceMul, Nat.reduceSub, Nat.reduceLeDiff, Int.reduceToNat, Int.reduceNeg, Int.reduceLT, Int.reduceLE, Int.reduceEq, reduceCtorEq, Int.natCast_zero, Int.natCast_one, Int.cast_ofNat_Int, Bool.not_not, false_eq_decide, true_eq_decide, hread0, hreadk, read_cons0, read_consk, astore_h0, astore_hk, hget0, hgetk, hset0, hsetk, hlen, hcat, Nat.add_assoc, Nat.add_zero, Nat.zero_add, List.length_append, and_true, true_and, AV.flat, *, -hK] | refine WC.call (keyed_spec _ _) ?_ | refine WC.call (in_spec _ _ _) ?_ | refine WC.call (tenanted_spec _ _) ?_ | with_reducible refine IfB_dec (fun h => ?_) (fun h => ?_) | with_reducible refine Guard_dec (fun h => ?_) (fun h => ?_) | with_reducible refine Guard_ndec (fun h => ?_) (fun h => ?_) | with_reducible refine Guard_not (fun h => ?_) (fun h => ?_) | with_reducible refine IfB_ndec (fun h => ?_) (fun h => ?_) | with_reducible refine IfB_not (fun h => ?_) (fun h => ?_) | with_reducible refine Guard_split (fun h => ?_) (fun h => ?_) | with_reducible refine IfB_split (fun h => ?_) (fun h => ?_))
    all_goals
      refine hK _ _ (Thaw.of_eq ?_ rfl) (Keep.app _ _ _)
      clear hK
      congr 1
      simp only [Chg.mayB, Chg.goodP, Chg.bare, keyB, Int.reduceEq, if_true, if_false, Chg.mk.injEq, true_and, and_true, decide_eq_true_eq, decide_eq_false_iff_not] at *
      try symm
      first
        | (rw [decide_eq_false_iff_not]; omega)
        | (rw [Bool.eq_iff_iff]; simp only [Bool.and_eq_true, decide_eq_true_eq]; first | exact ⟨fun h => by simpa only [and_assoc] using h.2.2, fun h => ⟨by omega, by omega, by simpa only [and_assoc] using h⟩⟩ | exact ⟨fun h => by simpa only [and_assoc] using h.2, fun h => ⟨by omega, by simpa only [and_assoc] using h⟩⟩)
  refine WC_of_body hT Try.func54 rfl (by simp [Try.f54]) (by simp [Try.f54]) (wx_sound hT _ ?_)
  simp only [Try.f54]
  repeat' (first | simp only [go_sem, Nat.reduceLT, Nat.reduceEqDiff, Nat.reduceAdd, Nat.reduceMul, Nat.reduceSub, Nat.reduceLeDiff, Int.reduceToNat, Int.reduceNeg, Int.reduceLT, Int.reduceLE, Int.reduceEq, reduceCtorEq, Int.natCast_zero, Int.natCast_one, Int.cast_ofNat_Int, Bool.not_not, false_eq_decide, true_eq_decide, hread0, hreadk, read_cons0, read_consk, astore_h0, astore_hk, hget0, hgetk, hset0, hsetk, hlen, hcat, Nat.add_assoc, Nat.add_zero, Nat.zero_add, List.length_append, and_true, true_and, AV.flat, *, -hK] | refine WC.call (tenanted_spec _ _) ?_ | with_reducible refine IfB_dec (fun h => ?_) (fun h => ?_) | with_reducible refine Guard_dec (fun h => ?_) (fun h => ?_) | with_reducible refine Guard_ndec (fun h => ?_) (fun h => ?_) | with_reducible refine Guard_not (fun h => ?_) (fun h => ?_) | with_reducible refine IfB_ndec (fun h => ?_) (fun h => ?_) | with_reducible refine IfB_not (fun h => ?_) (fun h => ?_) | with_reducible refine Guard_split (fun h => ?_) (fun h => ?_) | with_reducible refine IfB_split (fun h => ?_) (fun h => ?_))
  all_goals
    refine hK _ _ (Thaw.of_eq ?_ rfl) (Keep.app _ _ _)
    clear hK
    simp [Chg.mayB, Chg.goodP, k1, k2, k3, k4, k5, k6, k7]
/-! ### a change is put behind bytes -/
theorem num1 {x : Int} (h0 : 0 ≤ x) (h1 : x < 18446744073709551616) : numsL [x] = small x.toNat := by
  simp only [numsL, List.flatMap_cons, List.flatMap_nil, List.append_nil]
  rw [u64w_id h0 h1]
theorem _root_.Go.Proofs.PI.Grow.off {m p : Nat} {H H' : Heap} {v r : AV} {l : List UInt8} (g : Grow m H v H' r l) (hv : ∀ b, v.blk = some b → b < H.length ∧ b ≠ p) (hp : p < H.length) : ∀ b, r.blk = some b → b < H'.length ∧ b ≠ p := fun b hb => ⟨g.own.lt hb, fun e => by
  rcases g.new b hb with h | h
  · exact (hv b h).2 e
  · omega⟩
theorem put_spec {m : Nat} (v : AV) (bs : List UInt8) (c : Chg) (ho : c.Ok) (hm : c.mayB = true) (H : Heap) (hv : Ob m H v bs) (hmH : m ≤ H.length) (hc : bs.length ≤ 140737488000000) : WC Try.prog 56 [v, c.av] H fun r H' => Grow m H v H' r (bs ++ c.putL) := by
  refine WC_of_K fun K hK => ?_
  obtain ⟨h1, h2, h3, h4⟩ := may_facts ho hm
  have hkind : [AV.int .u8 c.kind] = byc [UInt8.ofNat c.kind.toNat] := by
    have := ho.kind; simp [byc]; omega
  have hwhy : [AV.int .u8 c.why] = byc [UInt8.ofNat c.why.toNat] := by
    have := ho.why; simp [byc]; omega
  have hfl : IntKind.i64.wrap c.ifl = c.ifl := i64_id _ (by have := ho.ifl; omega) (by have := ho.ifl; omega)
  have hif := ho.ifl
  have hu := ho.iuniq
  have su := fun J => smallP c.iuniq hu.1 hu.2 J
  have hu10 := small_len10 (n := c.iuniq.toNat) (by omega)
  clear hm ho h3
  unfold Chg.goodP at h4
  obtain ⟨kind, ten, ikey, ival, ifl, idue, iuniq, key, why, to, prim⟩ := c
  unfold Chg.av
  simp only at *
  have n1 := num1 (x := ten) (by omega) (by omega)
  have s1 := numsL_len [ten]
  rw [n1] at s1
  simp only [List.length_cons, List.length_nil] at s1
  by_cases k3 : kind = 3
  · subst k3
    clear su hwhy hfl
    simp only [Chg.putL, Int.reduceEq, if_true, if_false] at hK
    refine WC_of_body hT Try.func56 rfl (by simp [Try.f56]) (by simp [Try.f56]) (wx_sound hT _ ?_)
    simp only [Try.f56]
    repeat' (first | simp only [go_sem, Nat.reduceLT, Nat.reduceEqDiff, Nat.reduceAdd, Nat.reduceMul, Nat.reduceSub, Nat.reduceLeDiff, Int.reduceToNat, Int.reduceNeg, Int.reduceLT, Int.reduceLE, Int.reduceEq, reduceCtorEq, Int.natCast_zero, Int.natCast_one, Int.cast_ofNat_Int, Bool.not_not, false_eq_decide, true_eq_decide, hread0, hreadk, read_cons0, read_consk, astore_h0, astore_hk, hget0, hgetk, hset0, hsetk, hlen, hcat, Nat.add_assoc, Nat.add_zero, Nat.zero_add, List.length_append, and_true, true_and, AV.flat, *, -hK, -hkind] | with_reducible refine IfB_dec (fun h => ?_) (fun h => ?_) | with_reducible refine Guard_dec (fun h => ?_) (fun h => ?_) | with_reducible refine Guard_ndec (fun h => ?_) (fun h => ?_) | with_reducible refine Guard_not (fun h => ?_) (fun h => ?_) | with_reducible refine IfB_ndec (fun h => ?_) (fun h => ?_) | with_reducible refine IfB_not (fun h => ?_) (fun h => ?_) | with_reducible refine Guard_split (fun h => ?_) (fun h => ?_) | with_reducible refine IfB_split (fun h => ?_) (fun h => ?_))
    have ov : Ob m (H ++ [(⟨[.int .u8 3, .int .i64 ten, .str ikey, .str ival, .int .u32 ifl, .int .i64 idue, .int .u64 iuniq, .str key, .int .u8 why, .int .i64 to, .bool prim], 0, .full⟩ : Blk), ⟨[.int .u8 3], 1, .full⟩]) v bs := hv.keep0 (Keep.app _ _ _)
    have kb : Bs (H ++ [(⟨[.int .u8 3, .int .i64 ten, .str ikey, .str ival, .int .u32 ifl, .int .i64 idue, .int .u64 iuniq, .str key, .int .u8 why, .int .i64 to, .bool prim], 0, .full⟩ : Blk), ⟨[.int .u8 3], 1, .full⟩]) (.sl (H.length + 1) 0 1 none) [UInt8.ofNat (Int.toNat 3)] := get_vs (by rw [hgetk, hkind]; rfl) rfl rfl
    refine append_gr (m := m) ov se59 az5 td5 rfl (kb.src tk59) (by simp; omega) (by simp; omega) ?_
    intro r1 H1 g1
    have hvb : ∀ b, v.blk = some b → b < H.length := fun b hb => hv.lt hb
    have hb1 := g1.keep.get (b := H.length) (B := ⟨[.int .u8 3, .int .i64 ten, .str ikey, .str ival, .int .u32 ifl, .int .i64 idue, .int .u64 iuniq, .str key, .int .u8 why, .int .i64 to, .bool prim], 0, .full⟩) (by rw [hget0]; rfl) (fun e => by have := hvb _ e; omega)
    have hl1 : H.length + 2 ≤ H1.length := by have := g1.keep.len; simpa using this
    have hr1 := g1.off (p := H.length) (fun b hb => by have := hvb b hb; simp; omega) (by simp)
    have g1' := Grow.pre (Keep.app none H _) g1
    repeat' (first | simp only [go_sem, Nat.reduceLT, Nat.reduceEqDiff, Nat.reduceAdd, Nat.reduceMul, Nat.reduceSub, Nat.reduceLeDiff, Int.reduceToNat, Int.reduceNeg, Int.reduceLT, Int.reduceLE, Int.reduceEq, reduceCtorEq, Int.natCast_zero, Int.natCast_one, Int.cast_ofNat_Int, Bool.not_not, false_eq_decide, true_eq_decide, hread0, hreadk, read_cons0, read_consk, astore_h0, astore_hk, hget0, hgetk, hset0, hsetk, hlen, hcat, Nat.add_assoc, Nat.add_zero, Nat.zero_add, List.length_append, and_true, true_and, AV.flat, hb1, get_app hb1, read_get hb1, read_app hb1, *, -hK, -hkind, -n1, -s1] | with_reducible refine IfB_dec (fun h => ?_) (fun h => ?_) | with_reducible refine Guard_dec (fun h => ?_) (fun h => ?_) | with_reducible refine Guard_ndec (fun h => ?_) (fun h => ?_) | with_reducible refine Guard_not (fun h => ?_) (fun h => ?_) | with_reducible refine IfB_ndec (fun h => ?_) (fun h => ?_) | with_reducible refine IfB_not (fun h => ?_) (fun h => ?_) | with_reducible refine Guard_split (fun h => ?_) (fun h => ?_) | with_reducible refine IfB_split (fun h => ?_) (fun h => ?_))
    refine (nums_spec (m := m) _ _ _ [ten] _ (g1.own.keep0 (Keep.app none H1 [(⟨[.int .i64 ten], 1, .full⟩ : Blk)])) (by simp; omega) (get_vs (by rw [hget0]; rfl) rfl rfl) (fun b hb e => by have := hr1 b e; simp [AV.blk] at hb; omega) (by simp; omega)).mono ?_
    intro r2 H2 g2
    rw [n1] at g2
    have hb2 := g2.keep.get (get_app hb1 _) (fun e => (hr1 _ e).2 rfl)
    have hl2 : H1.length + 1 ≤ H2.length := by have := g2.keep.len; simpa using this
    have hr2 := g2.off (p := H.length) (fun b hb => by have := hr1 b hb; simp; omega) (by simp; omega)
    have g2' := g1'.trans (Grow.pre (Keep.app none H1 _) g2)
    repeat' (first | simp only [go_sem, Nat.reduceLT, Nat.reduceEqDiff, Nat.reduceAdd, Nat.reduceMul, Nat.reduceSub, Nat.reduceLeDiff, Int.reduceToNat, Int.reduceNeg, Int.reduceLT, Int.reduceLE, Int.reduceEq, reduceCtorEq, Int.natCast_zero, Int.natCast_one, Int.cast_ofNat_Int, Bool.not_not, false_eq_decide, true_eq_decide, hread0, hreadk, read_cons0, read_consk, astore_h0, astore_hk, hget0, hgetk, hset0, hsetk, hlen, hcat, Nat.add_assoc, Nat.add_zero, Nat.zero_add, List.length_append, and_true, true_and, AV.flat, hb2, get_app hb2, read_get hb2, read_app hb2, *, -hK, -hkind, -n1, -s1] | with_reducible refine IfB_dec (fun h => ?_) (fun h => ?_) | with_reducible refine Guard_dec (fun h => ?_) (fun h => ?_) | with_reducible refine Guard_ndec (fun h => ?_) (fun h => ?_) | with_reducible refine Guard_not (fun h => ?_) (fun h => ?_) | with_reducible refine IfB_ndec (fun h => ?_) (fun h => ?_) | with_reducible refine IfB_not (fun h => ?_) (fun h => ?_) | with_reducible refine Guard_split (fun h => ?_) (fun h => ?_) | with_reducible refine IfB_split (fun h => ?_) (fun h => ?_))
    refine hK _ _ (g2'.eq ?_)
    simp
  by_cases k4 : kind = 4
  · subst k4
    clear su hwhy hfl
    simp only [Chg.putL, Int.reduceEq, if_true, if_false] at hK h4
    refine WC_of_body hT Try.func56 rfl (by simp [Try.f56]) (by simp [Try.f56]) (wx_sound hT _ ?_)
    simp only [Try.f56]
    repeat' (first | simp only [go_sem, Nat.reduceLT, Nat.reduceEqDiff, Nat.reduceAdd, Nat.reduceMul, Nat.reduceSub, Nat.reduceLeDiff, Int.reduceToNat, Int.reduceNeg, Int.reduceLT, Int.reduceLE, Int.reduceEq, reduceCtorEq, Int.natCast_zero, Int.natCast_one, Int.cast_ofNat_Int, Bool.not_not, false_eq_decide, true_eq_decide, hread0, hreadk, read_cons0, read_consk, astore_h0, astore_hk, hget0, hgetk, hset0, hsetk, hlen, hcat, Nat.add_assoc, Nat.add_zero, Nat.zero_add, List.length_append, and_true, true_and, AV.flat, *, -hK, -hkind] | with_reducible refine IfB_dec (fun h => ?_) (fun h => ?_) | with_reducible refine Guard_dec (fun h => ?_) (fun h => ?_) | with_reducible refine Guard_ndec (fun h => ?_) (fun h => ?_) | with_reducible refine Guard_not (fun h => ?_) (fun h => ?_) | with_reducible refine IfB_ndec (fun h => ?_) (fun h => ?_) | with_reducible refine IfB_not (fun h => ?_) (fun h => ?_) | with_reducible refine Guard_split (fun h => ?_) (fun h => ?_) | with_reducible refine IfB_split (fun h => ?_) (fun h => ?_))
    have ov : Ob m (H ++ [(⟨[.int .u8 4, .int .i64 ten, .str ikey, .str ival, .int .u32 ifl, .int .i64 idue, .int .u64 iuniq, .str key, .int .u8 why, .int .i64 to, .bool prim], 0, .full⟩ : Blk), ⟨[.int .u8 4], 1, .full⟩]) v bs := hv.keep0 (Keep.app _ _ _)
    have kb : Bs (H ++ [(⟨[.int .u8 4, .int .i64 ten, .str ikey, .str ival, .int .u32 ifl, .int .i64 idue, .int .u64 iuniq, .str key, .int .u8 why, .int .i64 to, .bool prim], 0, .full⟩ : Blk), ⟨[.int .u8 4], 1, .full⟩]) (.sl (H.length + 1) 0 1 none) [UInt8.ofNat (Int.toNat 4)] := get_vs (by rw [hgetk, hkind]; rfl) rfl rfl
    refine append_gr (m := m) ov se59 az5 td5 rfl (kb.src tk59) (by simp; omega) (by simp; omega) ?_
    intro r1 H1 g1
    have hvb : ∀ b, v.blk = some b → b < H.length := fun b hb => hv.lt hb
    have hb1 := g1.keep.get (b := H.length) (B := ⟨[.int .u8 4, .int .i64 ten, .str ikey, .str ival, .int .u32 ifl, .int .i64 idue, .int .u64 iuniq, .str key, .int .u8 why, .int .i64 to, .bool prim], 0, .full⟩) (by rw [hget0]; rfl) (fun e => by have := hvb _ e; omega)
    have hl1 : H.length + 2 ≤ H1.length := by have := g1.keep.len; simpa using this
    have hr1 := g1.off (p := H.length) (fun b hb => by have := hvb b hb; simp; omega) (by simp)
    have g1' := Grow.pre (Keep.app none H _) g1
    repeat' (first | simp only [go_sem, Nat.reduceLT, Nat.reduceEqDiff, Nat.reduceAdd, Nat.reduceMul, Nat.reduceSub, Nat.reduceLeDiff, Int.reduceToNat, Int.reduceNeg, Int.reduceLT, Int.reduceLE, Int.reduceEq, reduceCtorEq, Int.natCast_zero, Int.natCast_one, Int.cast_ofNat_Int, Bool.not_not, false_eq_decide, true_eq_decide, hread0, hreadk, read_cons0, read_consk, astore_h0, astore_hk, hget0, hgetk, hset0, hsetk, hlen, hcat, Nat.add_assoc, Nat.add_zero, Nat.zero_add, List.length_append, and_true, true_and, AV.flat, hb1, get_app hb1, read_get hb1, read_app hb1, *, -hK, -hkind, -n1, -s1] | with_reducible refine IfB_dec (fun h => ?_) (fun h => ?_) | with_reducible refine Guard_dec (fun h => ?_) (fun h => ?_) | with_reducible refine Guard_ndec (fun h => ?_) (fun h => ?_) | with_reducible refine Guard_not (fun h => ?_) (fun h => ?_) | with_reducible refine IfB_ndec (fun h => ?_) (fun h => ?_) | with_reducible refine IfB_not (fun h => ?_) (fun h => ?_) | with_reducible refine Guard_split (fun h => ?_) (fun h => ?_) | with_reducible refine IfB_split (fun h => ?_) (fun h => ?_))
    refine (nums_spec (m := m) _ _ _ [to] _ (g1.own.keep0 (Keep.app none H1 [(⟨[.int .i64 to], 1, .full⟩ : Blk)])) (by simp; omega) (get_vs (by rw [hget0]; rfl) rfl rfl) (fun b hb e => by have := hr1 b e; simp [AV.blk] at hb; omega) (by simp at s1 ⊢; omega)).mono ?_
    intro r3 H3 g3
    rw [num1 (x := to) (by omega) (by omega)] at g3
    have hb3 := g3.keep.get (get_app hb1 _) (fun e => (hr1 _ e).2 rfl)
    have g3' := Grow.trans g1' (Grow.pre (Keep.app none H1 _) g3)
    repeat' (first | simp only [go_sem, Nat.reduceLT, Nat.reduceEqDiff, Nat.reduceAdd, Nat.reduceMul, Nat.reduceSub, Nat.reduceLeDiff, Int.reduceToNat, Int.reduceNeg, Int.reduceLT, Int.reduceLE, Int.reduceEq, reduceCtorEq, Int.natCast_zero, Int.natCast_one, Int.cast_ofNat_Int, Bool.not_not, false_eq_decide, true_eq_decide, hread0, hreadk, read_cons0, read_consk, astore_h0, astore_hk, hget0, hgetk, hset0, hsetk, hlen, hcat, Nat.add_assoc, Nat.add_zero, Nat.zero_add, List.length_append, and_true, true_and, AV.flat, hb3, get_app hb3, read_get hb3, read_app hb3, *, -hK, -hkind, -n1, -s1] | with_reducible refine IfB_dec (fun h => ?_) (fun h => ?_) | with_reducible refine Guard_dec (fun h => ?_) (fun h => ?_) | with_reducible refine Guard_ndec (fun h => ?_) (fun h => ?_) | with_reducible refine Guard_not (fun h => ?_) (fun h => ?_) | with_reducible refine IfB_ndec (fun h => ?_) (fun h => ?_) | with_reducible refine IfB_not (fun h => ?_) (fun h => ?_) | with_reducible refine Guard_split (fun h => ?_) (fun h => ?_) | with_reducible refine IfB_split (fun h => ?_) (fun h => ?_))
    refine hK _ _ (g3'.eq ?_)
    simp
  by_cases k7 : kind = 7
  · subst k7
    clear su hwhy hfl
    simp only [Chg.putL, Int.reduceEq, if_true, if_false] at hK h4
    refine WC_of_body hT Try.func56 rfl (by simp [Try.f56]) (by simp [Try.f56]) (wx_sound hT _ ?_)
    simp only [Try.f56]
    repeat' (first | simp only [go_sem, Nat.reduceLT, Nat.reduceEqDiff, Nat.reduceAdd, Nat.reduceMul, Nat.reduceSub, Nat.reduceLeDiff, Int.reduceToNat, Int.reduceNeg, Int.reduceLT, Int.reduceLE, Int.reduceEq, reduceCtorEq, Int.natCast_zero, Int.natCast_one, Int.cast_ofNat_Int, Bool.not_not, false_eq_decide, true_eq_decide, hread0, hreadk, read_cons0, read_consk, astore_h0, astore_hk, hget0, hgetk, hset0, hsetk, hlen, hcat, Nat.add_assoc, Nat.add_zero, Nat.zero_add, List.length_append, and_true, true_and, AV.flat, *, -hK, -hkind] | with_reducible refine IfB_dec (fun h => ?_) (fun h => ?_) | with_reducible refine Guard_dec (fun h => ?_) (fun h => ?_) | with_reducible refine Guard_ndec (fun h => ?_) (fun h => ?_) | with_reducible refine Guard_not (fun h => ?_) (fun h => ?_) | with_reducible refine IfB_ndec (fun h => ?_) (fun h => ?_) | with_reducible refine IfB_not (fun h => ?_) (fun h => ?_) | with_reducible refine Guard_split (fun h => ?_) (fun h => ?_) | with_reducible refine IfB_split (fun h => ?_) (fun h => ?_))
    have ov : Ob m (H ++ [(⟨[.int .u8 7, .int .i64 ten, .str ikey, .str ival, .int .u32 ifl, .int .i64 idue, .int .u64 iuniq, .str key, .int .u8 why, .int .i64 to, .bool prim], 0, .full⟩ : Blk), ⟨[.int .u8 7], 1, .full⟩]) v bs := hv.keep0 (Keep.app _ _ _)
    have kb : Bs (H ++ [(⟨[.int .u8 7, .int .i64 ten, .str ikey, .str ival, .int .u32 ifl, .int .i64 idue, .int .u64 iuniq, .str key, .int .u8 why, .int .i64 to, .bool prim], 0, .full⟩ : Blk), ⟨[.int .u8 7], 1, .full⟩]) (.sl (H.length + 1) 0 1 none) [UInt8.ofNat (Int.toNat 7)] := get_vs (by rw [hgetk, hkind]; rfl) rfl rfl
    refine append_gr (m := m) ov se59 az5 td5 rfl (kb.src tk59) (by simp; omega) (by simp; omega) ?_
    intro r1 H1 g1
    have hvb : ∀ b, v.blk = some b → b < H.length := fun b hb => hv.lt hb
    have hb1 := g1.keep.get (b := H.length) (B := ⟨[.int .u8 7, .int .i64 ten, .str ikey, .str ival, .int .u32 ifl, .int .i64 idue, .int .u64 iuniq, .str key, .int .u8 why, .int .i64 to, .bool prim], 0, .full⟩) (by rw [hget0]; rfl) (fun e => by have := hvb _ e; omega)
    have hl1 : H.length + 2 ≤ H1.length := by have := g1.keep.len; simpa using this
    have hr1 := g1.off (p := H.length) (fun b hb => by have := hvb b hb; simp; omega) (by simp)
    have g1' := Grow.pre (Keep.app none H _) g1
    repeat' (first | simp only [go_sem, Nat.reduceLT, Nat.reduceEqDiff, Nat.reduceAdd, Nat.reduceMul, Nat.reduceSub, Nat.reduceLeDiff, Int.reduceToNat, Int.reduceNeg, Int.reduceLT, Int.reduceLE, Int.reduceEq, reduceCtorEq, Int.natCast_zero, Int.natCast_one, Int.cast_ofNat_Int, Bool.not_not, false_eq_decide, true_eq_decide, hread0, hreadk, read_cons0, read_consk, astore_h0, astore_hk, hget0, hgetk, hset0, hsetk, hlen, hcat, Nat.add_assoc, Nat.add_zero, Nat.zero_add, List.length_append, and_true, true_and, AV.flat, hb1, get_app hb1, read_get hb1, read_app hb1, *, -hK, -hkind, -n1, -s1] | with_reducible refine IfB_dec (fun h => ?_) (fun h => ?_) | with_reducible refine Guard_dec (fun h => ?_) (fun h => ?_) | with_reducible refine Guard_ndec (fun h => ?_) (fun h => ?_) | with_reducible refine Guard_not (fun h => ?_) (fun h => ?_) | with_reducible refine IfB_ndec (fun h => ?_) (fun h => ?_) | with_reducible refine IfB_not (fun h => ?_) (fun h => ?_) | with_reducible refine Guard_split (fun h => ?_) (fun h => ?_) | with_reducible refine IfB_split (fun h => ?_) (fun h => ?_))
    refine (nums_spec (m := m) _ _ _ [to] _ (g1.own.keep0 (Keep.app none H1 [(⟨[.int .i64 to], 1, .full⟩ : Blk)])) (by simp; omega) (get_vs (by rw [hget0]; rfl) rfl rfl) (fun b hb e => by have := hr1 b e; simp [AV.blk] at hb; omega) (by simp at s1 ⊢; omega)).mono ?_
    intro r3 H3 g3
    rw [num1 (x := to) (by omega) (by omega)] at g3
    have hb3 := g3.keep.get (get_app hb1 _) (fun e => (hr1 _ e).2 rfl)
    have g3' := Grow.trans g1' (Grow.pre (Keep.app none H1 _) g3)
    repeat' (first | simp only [go_sem, Nat.reduceLT, Nat.reduceEqDiff, Nat.reduceAdd, Nat.reduceMul, Nat.reduceSub, Nat.reduceLeDiff, Int.reduceToNat, Int.reduceNeg, Int.reduceLT, Int.reduceLE, Int.reduceEq, reduceCtorEq, Int.natCast_zero, Int.natCast_one, Int.cast_ofNat_Int, Bool.not_not, false_eq_decide, true_eq_decide, hread0, hreadk, read_cons0, read_consk, astore_h0, astore_hk, hget0, hgetk, hset0, hsetk, hlen, hcat, Nat.add_assoc, Nat.add_zero, Nat.zero_add, List.length_append, and_true, true_and, AV.flat, hb3, get_app hb3, read_get hb3, read_app hb3, *, -hK, -hkind, -n1, -s1] | with_reducible refine IfB_dec (fun h => ?_) (fun h => ?_) | with_reducible refine Guard_dec (fun h => ?_) (fun h => ?_) | with_reducible refine Guard_ndec (fun h => ?_) (fun h => ?_) | with_reducible refine Guard_not (fun h => ?_) (fun h => ?_) | with_reducible refine IfB_ndec (fun h => ?_) (fun h => ?_) | with_reducible refine IfB_not (fun h => ?_) (fun h => ?_) | with_reducible refine Guard_split (fun h => ?_) (fun h => ?_) | with_reducible refine IfB_split (fun h => ?_) (fun h => ?_))
    refine hK _ _ (g3'.eq ?_)
    simp
  by_cases k5 : kind = 5
  · subst k5
    clear su hwhy hfl
    simp only [Chg.putL, Int.reduceEq, if_true, if_false] at hK h4
    refine WC_of_body hT Try.func56 rfl (by simp [Try.f56]) (by simp [Try.f56]) (wx_sound hT _ ?_)
    simp only [Try.f56]
    repeat' (first | simp only [go_sem, Nat.reduceLT, Nat.reduceEqDiff, Nat.reduceAdd, Nat.reduceMul, Nat.reduceSub, Nat.reduceLeDiff, Int.reduceToNat, Int.reduceNeg, Int.reduceLT, Int.reduceLE, Int.reduceEq, reduceCtorEq, Int.natCast_zero, Int.natCast_one, Int.cast_ofNat_Int, Bool.not_not, false_eq_decide, true_eq_decide, hread0, hreadk, read_cons0, read_consk, astore_h0, astore_hk, hget0, hgetk, hset0, hsetk, hlen, hcat, Nat.add_assoc, Nat.add_zero, Nat.zero_add, List.length_append, and_true, true_and, AV.flat, *, -hK, -hkind] | with_reducible refine IfB_dec (fun h => ?_) (fun h => ?_) | with_reducible refine Guard_dec (fun h => ?_) (fun h => ?_) | with_reducible refine Guard_ndec (fun h => ?_) (fun h => ?_) | with_reducible refine Guard_not (fun h => ?_) (fun h => ?_) | with_reducible refine IfB_ndec (fun h => ?_) (fun h => ?_) | with_reducible refine IfB_not (fun h => ?_) (fun h => ?_) | with_reducible refine Guard_split (fun h => ?_) (fun h => ?_) | with_reducible refine IfB_split (fun h => ?_) (fun h => ?_))
    have ov : Ob m (H ++ [(⟨[.int .u8 5, .int .i64 ten, .str ikey, .str ival, .int .u32 ifl, .int .i64 idue, .int .u64 iuniq, .str key, .int .u8 why, .int .i64 to, .bool prim], 0, .full⟩ : Blk), ⟨[.int .u8 5], 1, .full⟩]) v bs := hv.keep0 (Keep.app _ _ _)
    have kb : Bs (H ++ [(⟨[.int .u8 5, .int .i64 ten, .str ikey, .str ival, .int .u32 ifl, .int .i64 idue, .int .u64 iuniq, .str key, .int .u8 why, .int .i64 to, .bool prim], 0, .full⟩ : Blk), ⟨[.int .u8 5], 1, .full⟩]) (.sl (H.length + 1) 0 1 none) [UInt8.ofNat (Int.toNat 5)] := get_vs (by rw [hgetk, hkind]; rfl) rfl rfl
    refine append_gr (m := m) ov se59 az5 td5 rfl (kb.src tk59) (by simp; omega) (by simp; omega) ?_
    intro r1 H1 g1
    have hvb : ∀ b, v.blk = some b → b < H.length := fun b hb => hv.lt hb
    have hb1 := g1.keep.get (b := H.length) (B := ⟨[.int .u8 5, .int .i64 ten, .str ikey, .str ival, .int .u32 ifl, .int .i64 idue, .int .u64 iuniq, .str key, .int .u8 why, .int .i64 to, .bool prim], 0, .full⟩) (by rw [hget0]; rfl) (fun e => by have := hvb _ e; omega)
    have hl1 : H.length + 2 ≤ H1.length := by have := g1.keep.len; simpa using this
    have hr1 := g1.off (p := H.length) (fun b hb => by have := hvb b hb; simp; omega) (by simp)
    have g1' := Grow.pre (Keep.app none H _) g1
    repeat' (first | simp only [go_sem, Nat.reduceLT, Nat.reduceEqDiff, Nat.reduceAdd, Nat.reduceMul, Nat.reduceSub, Nat.reduceLeDiff, Int.reduceToNat, Int.reduceNeg, Int.reduceLT, Int.reduceLE, Int.reduceEq, reduceCtorEq, Int.natCast_zero, Int.natCast_one, Int.cast_ofNat_Int, Bool.not_not, false_eq_decide, true_eq_decide, hread0, hreadk, read_cons0, read_consk, astore_h0, astore_hk, hget0, hgetk, hset0, hsetk, hlen, hcat, Nat.add_assoc, Nat.add_zero, Nat.zero_add, List.length_append, and_true, true_and, AV.flat, hb1, get_app hb1, read_get hb1, read_app hb1, *, -hK, -hkind, -n1, -s1] | with_reducible refine IfB_dec (fun h => ?_) (fun h => ?_) | with_reducible refine Guard_dec (fun h => ?_) (fun h => ?_) | with_reducible refine Guard_ndec (fun h => ?_) (fun h => ?_) | with_reducible refine Guard_not (fun h => ?_) (fun h => ?_) | with_reducible refine IfB_ndec (fun h => ?_) (fun h => ?_) | with_reducible refine IfB_not (fun h => ?_) (fun h => ?_) | with_reducible refine Guard_split (fun h => ?_) (fun h => ?_) | with_reducible refine IfB_split (fun h => ?_) (fun h => ?_))
    refine (nums_spec (m := m) _ _ _ [ten] _ (g1.own.keep0 (Keep.app none H1 [(⟨[.int .i64 ten], 1, .full⟩ : Blk)])) (by simp; omega) (get_vs (by rw [hget0]; rfl) rfl rfl) (fun b hb e => by have := hr1 b e; simp [AV.blk] at hb; omega) (by simp; omega)).mono ?_
    intro r2 H2 g2
    rw [n1] at g2
    have hb2 := g2.keep.get (get_app hb1 _) (fun e => (hr1 _ e).2 rfl)
    have hl2 : H1.length + 1 ≤ H2.length := by have := g2.keep.len; simpa using this
    have hr2 := g2.off (p := H.length) (fun b hb => by have := hr1 b hb; simp; omega) (by simp; omega)
    have g2' := g1'.trans (Grow.pre (Keep.app none H1 _) g2)
    repeat' (first | simp only [go_sem, Nat.reduceLT, Nat.reduceEqDiff, Nat.reduceAdd, Nat.reduceMul, Nat.reduceSub, Nat.reduceLeDiff, Int.reduceToNat, Int.reduceNeg, Int.reduceLT, Int.reduceLE, Int.reduceEq, reduceCtorEq, Int.natCast_zero, Int.natCast_one, Int.cast_ofNat_Int, Bool.not_not, false_eq_decide, true_eq_decide, hread0, hreadk, read_cons0, read_consk, astore_h0, astore_hk, hget0, hgetk, hset0, hsetk, hlen, hcat, Nat.add_assoc, Nat.add_zero, Nat.zero_add, List.length_append, and_true, true_and, AV.flat, hb2, get_app hb2, read_get hb2, read_app hb2, *, -hK, -hkind, -n1, -s1] | with_reducible refine IfB_dec (fun h => ?_) (fun h => ?_) | with_reducible refine Guard_dec (fun h => ?_) (fun h => ?_) | with_reducible refine Guard_ndec (fun h => ?_) (fun h => ?_) | with_reducible refine Guard_not (fun h => ?_) (fun h => ?_) | with_reducible refine IfB_ndec (fun h => ?_) (fun h => ?_) | with_reducible refine IfB_not (fun h => ?_) (fun h => ?_) | with_reducible refine Guard_split (fun h => ?_) (fun h => ?_) | with_reducible refine IfB_split (fun h => ?_) (fun h => ?_))
    refine (nums_spec (m := m) _ _ _ [to] _ (g2.own.keep0 (Keep.app none H2 [(⟨[.int .i64 to], 1, .full⟩ : Blk)])) (by simp; omega) (get_vs (by rw [hget0]; rfl) rfl rfl) (fun b hb e => by have := hr2 b e; simp [AV.blk] at hb; omega) (by simp at s1 ⊢; omega)).mono ?_
    intro r3 H3 g3
    rw [num1 (x := to) (by omega) (by omega)] at g3
    have hb3 := g3.keep.get (get_app hb2 _) (fun e => (hr2 _ e).2 rfl)
    have g3' := Grow.trans g2' (Grow.pre (Keep.app none H2 _) g3)
    repeat' (first | simp only [go_sem, Nat.reduceLT, Nat.reduceEqDiff, Nat.reduceAdd, Nat.reduceMul, Nat.reduceSub, Nat.reduceLeDiff, Int.reduceToNat, Int.reduceNeg, Int.reduceLT, Int.reduceLE, Int.reduceEq, reduceCtorEq, Int.natCast_zero, Int.natCast_one, Int.cast_ofNat_Int, Bool.not_not, false_eq_decide, true_eq_decide, hread0, hreadk, read_cons0, read_consk, astore_h0, astore_hk, hget0, hgetk, hset0, hsetk, hlen, hcat, Nat.add_assoc, Nat.add_zero, Nat.zero_add, List.length_append, and_true, true_and, AV.flat, hb3, get_app hb3, read_get hb3, read_app hb3, *, -hK, -hkind, -n1, -s1] | with_reducible refine IfB_dec (fun h => ?_) (fun h => ?_) | with_reducible refine Guard_dec (fun h => ?_) (fun h => ?_) | with_reducible refine Guard_ndec (fun h => ?_) (fun h => ?_) | with_reducible refine Guard_not (fun h => ?_) (fun h => ?_) | with_reducible refine IfB_ndec (fun h => ?_) (fun h => ?_) | with_reducible refine IfB_not (fun h => ?_) (fun h => ?_) | with_reducible refine Guard_split (fun h => ?_) (fun h => ?_) | with_reducible refine IfB_split (fun h => ?_) (fun h => ?_))
    refine hK _ _ (g3'.eq ?_)
    simp
  by_cases k6 : kind = 6
  · subst k6
    clear su hwhy hfl
    simp only [Chg.putL, Int.reduceEq, if_true, if_false] at hK h4
    refine WC_of_body hT Try.func56 rfl (by simp [Try.f56]) (by simp [Try.f56]) (wx_sound hT _ ?_)
    simp only [Try.f56]
    repeat' (first | simp only [go_sem, Nat.reduceLT, Nat.reduceEqDiff, Nat.reduceAdd, Nat.reduceMul, Nat.reduceSub, Nat.reduceLeDiff, Int.reduceToNat, Int.reduceNeg, Int.reduceLT, Int.reduceLE, Int.reduceEq, reduceCtorEq, Int.natCast_zero, Int.natCast_one, Int.cast_ofNat_Int, Bool.not_not, false_eq_decide, true_eq_decide, hread0, hreadk, read_cons0, read_consk, astore_h0, astore_hk, hget0, hgetk, hset0, hsetk, hlen, hcat, Nat.add_assoc, Nat.add_zero, Nat.zero_add, List.length_append, and_true, true_and, AV.flat, *, -hK, -hkind] | with_reducible refine IfB_dec (fun h => ?_) (fun h => ?_) | with_reducible refine Guard_dec (fun h => ?_) (fun h => ?_) | with_reducible refine Guard_ndec (fun h => ?_) (fun h => ?_) | with_reducible refine Guard_not (fun h => ?_) (fun h => ?_) | with_reducible refine IfB_ndec (fun h => ?_) (fun h => ?_) | with_reducible refine IfB_not (fun h => ?_) (fun h => ?_) | with_reducible refine Guard_split (fun h => ?_) (fun h => ?_) | with_reducible refine IfB_split (fun h => ?_) (fun h => ?_))
    have ov : Ob m (H ++ [(⟨[.int .u8 6, .int .i64 ten, .str ikey, .str ival, .int .u32 ifl, .int .i64 idue, .int .u64 iuniq, .str key, .int .u8 why, .int .i64 to, .bool prim], 0, .full⟩ : Blk), ⟨[.int .u8 6], 1, .full⟩]) v bs := hv.keep0 (Keep.app _ _ _)
    have kb : Bs (H ++ [(⟨[.int .u8 6, .int .i64 ten, .str ikey, .str ival, .int .u32 ifl, .int .i64 idue, .int .u64 iuniq, .str key, .int .u8 why, .int .i64 to, .bool prim], 0, .full⟩ : Blk), ⟨[.int .u8 6], 1, .full⟩]) (.sl (H.length + 1) 0 1 none) [UInt8.ofNat (Int.toNat 6)] := get_vs (by rw [hgetk, hkind]; rfl) rfl rfl
    refine append_gr (m := m) ov se59 az5 td5 rfl (kb.src tk59) (by simp; omega) (by simp; omega) ?_
    intro r1 H1 g1
    have hvb : ∀ b, v.blk = some b → b < H.length := fun b hb => hv.lt hb
    have hb1 := g1.keep.get (b := H.length) (B := ⟨[.int .u8 6, .int .i64 ten, .str ikey, .str ival, .int .u32 ifl, .int .i64 idue, .int .u64 iuniq, .str key, .int .u8 why, .int .i64 to, .bool prim], 0, .full⟩) (by rw [hget0]; rfl) (fun e => by have := hvb _ e; omega)
    have hl1 : H.length + 2 ≤ H1.length := by have := g1.keep.len; simpa using this
    have hr1 := g1.off (p := H.length) (fun b hb => by have := hvb b hb; simp; omega) (by simp)
    have g1' := Grow.pre (Keep.app none H _) g1
    repeat' (first | simp only [go_sem, Nat.reduceLT, Nat.reduceEqDiff, Nat.reduceAdd, Nat.reduceMul, Nat.reduceSub, Nat.reduceLeDiff, Int.reduceToNat, Int.reduceNeg, Int.reduceLT, Int.reduceLE, Int.reduceEq, reduceCtorEq, Int.natCast_zero, Int.natCast_one, Int.cast_ofNat_Int, Bool.not_not, false_eq_decide, true_eq_decide, hread0, hreadk, read_cons0, read_consk, astore_h0, astore_hk, hget0, hgetk, hset0, hsetk, hlen, hcat, Nat.add_assoc, Nat.add_zero, Nat.zero_add, List.length_append, and_true, true_and, AV.flat, hb1, get_app hb1, read_get hb1, read_app hb1, *, -hK, -hkind, -n1, -s1] | with_reducible refine IfB_dec (fun h => ?_) (fun h => ?_) | with_reducible refine Guard_dec (fun h => ?_) (fun h => ?_) | with_reducible refine Guard_ndec (fun h => ?_) (fun h => ?_) | with_reducible refine Guard_not (fun h => ?_) (fun h => ?_) | with_reducible refine IfB_ndec (fun h => ?_) (fun h => ?_) | with_reducible refine IfB_not (fun h => ?_) (fun h => ?_) | with_reducible refine Guard_split (fun h => ?_) (fun h => ?_) | with_reducible refine IfB_split (fun h => ?_) (fun h => ?_))
    refine (nums_spec (m := m) _ _ _ [to] _ (g1.own.keep0 (Keep.app none H1 [(⟨[.int .i64 to], 1, .full⟩ : Blk)])) (by simp; omega) (get_vs (by rw [hget0]; rfl) rfl rfl) (fun b hb e => by have := hr1 b e; simp [AV.blk] at hb; omega) (by simp at s1 ⊢; omega)).mono ?_
    intro r3 H3 g3
    rw [num1 (x := to) (by omega) (by omega)] at g3
    have hb3 := g3.keep.get (get_app hb1 _) (fun e => (hr1 _ e).2 rfl)
    have g3' := Grow.trans g1' (Grow.pre (Keep.app none H1 _) g3)
    have t1 := numsL_len [to]
    rw [num1 (x := to) (by omega) (by omega)] at t1
    simp only [List.length_cons, List.length_nil] at t1
    cases prim
    · repeat' (first | simp only [go_sem, Nat.reduceLT, Nat.reduceEqDiff, Nat.reduceAdd, Nat.reduceMul, Nat.reduceSub, Nat.reduceLeDiff, Int.reduceToNat, Int.reduceNeg, Int.reduceLT, Int.reduceLE, Int.reduceEq, reduceCtorEq, Int.natCast_zero, Int.natCast_one, Int.cast_ofNat_Int, Bool.not_not, false_eq_decide, true_eq_decide, hread0, hreadk, read_cons0, read_consk, astore_h0, astore_hk, hget0, hgetk, hset0, hsetk, hlen, hcat, Nat.add_assoc, Nat.add_zero, Nat.zero_add, List.length_append, and_true, true_and, AV.flat, hb3, get_app hb3, read_get hb3, read_app hb3, *, -hK, -hkind, -n1, -s1] | with_reducible refine IfB_dec (fun h => ?_) (fun h => ?_) | with_reducible refine Guard_dec (fun h => ?_) (fun h => ?_) | with_reducible refine Guard_ndec (fun h => ?_) (fun h => ?_) | with_reducible refine Guard_not (fun h => ?_) (fun h => ?_) | with_reducible refine IfB_ndec (fun h => ?_) (fun h => ?_) | with_reducible refine IfB_not (fun h => ?_) (fun h => ?_) | with_reducible refine Guard_split (fun h => ?_) (fun h => ?_) | with_reducible refine IfB_split (fun h => ?_) (fun h => ?_))
      refine append_gr (m := m) (g3.own.keep0 (Keep.app none H3 [(⟨[.int .u8 0], 1, .full⟩ : Blk)])) se59 az5 td5 rfl (r := [0]) (Bs.src (l := [0]) (get_vs (by rw [hget0]; rfl) rfl rfl) tk59) (by simp; omega) (by have := g3.keep.len; simp at this ⊢; omega) ?_
      intro r4 H4 g4
      have g4' := g3'.trans (Grow.pre (Keep.app none H3 _) g4)
      repeat' (first | simp only [go_sem, Nat.reduceLT, Nat.reduceEqDiff, Nat.reduceAdd, Nat.reduceMul, Nat.reduceSub, Nat.reduceLeDiff, Int.reduceToNat, Int.reduceNeg, Int.reduceLT, Int.reduceLE, Int.reduceEq, reduceCtorEq, Int.natCast_zero, Int.natCast_one, Int.cast_ofNat_Int, Bool.not_not, false_eq_decide, true_eq_decide, hread0, hreadk, read_cons0, read_consk, astore_h0, astore_hk, hget0, hgetk, hset0, hsetk, hlen, hcat, Nat.add_assoc, Nat.add_zero, Nat.zero_add, List.length_append, and_true, true_and, AV.flat, *, -hK, -hkind, -n1, -s1] | with_reducible refine IfB_dec (fun h => ?_) (fun h => ?_) | with_reducible refine Guard_dec (fun h => ?_) (fun h => ?_) | with_reducible refine Guard_ndec (fun h => ?_) (fun h => ?_) | with_reducible refine Guard_not (fun h => ?_) (fun h => ?_) | with_reducible refine IfB_ndec (fun h => ?_) (fun h => ?_) | with_reducible refine IfB_not (fun h => ?_) (fun h => ?_) | with_reducible refine Guard_split (fun h => ?_) (fun h => ?_) | with_reducible refine IfB_split (fun h => ?_) (fun h => ?_))
      refine hK _ _ (g4'.eq ?_)
      simp
    · repeat' (first | simp only [go_sem, Nat.reduceLT, Nat.reduceEqDiff, Nat.reduceAdd, Nat.reduceMul, Nat.reduceSub, Nat.reduceLeDiff, Int.reduceToNat, Int.reduceNeg, Int.reduceLT, Int.reduceLE, Int.reduceEq, reduceCtorEq, Int.natCast_zero, Int.natCast_one, Int.cast_ofNat_Int, Bool.not_not, false_eq_decide, true_eq_decide, hread0, hreadk, read_cons0, read_consk, astore_h0, astore_hk, hget0, hgetk, hset0, hsetk, hlen, hcat, Nat.add_assoc, Nat.add_zero, Nat.zero_add, List.length_append, and_true, true_and, AV.flat, hb3, get_app hb3, read_get hb3, read_app hb3, *, -hK, -hkind, -n1, -s1] | with_reducible refine IfB_dec (fun h => ?_) (fun h => ?_) | with_reducible refine Guard_dec (fun h => ?_) (fun h => ?_) | with_reducible refine Guard_ndec (fun h => ?_) (fun h => ?_) | with_reducible refine Guard_not (fun h => ?_) (fun h => ?_) | with_reducible refine IfB_ndec (fun h => ?_) (fun h => ?_) | with_reducible refine IfB_not (fun h => ?_) (fun h => ?_) | with_reducible refine Guard_split (fun h => ?_) (fun h => ?_) | with_reducible refine IfB_split (fun h => ?_) (fun h => ?_))
      refine append_gr (m := m) (g3.own.keep0 (Keep.app none H3 [(⟨[.int .u8 1], 1, .full⟩ : Blk)])) se59 az5 td5 rfl (r := [1]) (Bs.src (l := [1]) (get_vs (by rw [hget0]; rfl) rfl rfl) tk59) (by simp; omega) (by have := g3.keep.len; simp at this ⊢; omega) ?_
      intro r4 H4 g4
      have g4' := g3'.trans (Grow.pre (Keep.app none H3 _) g4)
      repeat' (first | simp only [go_sem, Nat.reduceLT, Nat.reduceEqDiff, Nat.reduceAdd, Nat.reduceMul, Nat.reduceSub, Nat.reduceLeDiff, Int.reduceToNat, Int.reduceNeg, Int.reduceLT, Int.reduceLE, Int.reduceEq, reduceCtorEq, Int.natCast_zero, Int.natCast_one, Int.cast_ofNat_Int, Bool.not_not, false_eq_decide, true_eq_decide, hread0, hreadk, read_cons0, read_consk, astore_h0, astore_hk, hget0, hgetk, hset0, hsetk, hlen, hcat, Nat.add_assoc, Nat.add_zero, Nat.zero_add, List.length_append, and_true, true_and, AV.flat, *, -hK, -hkind, -n1, -s1] | with_reducible refine IfB_dec (fun h => ?_) (fun h => ?_) | with_reducible refine Guard_dec (fun h => ?_) (fun h => ?_) | with_reducible refine Guard_ndec (fun h => ?_) (fun h => ?_) | with_reducible refine Guard_not (fun h => ?_) (fun h => ?_) | with_reducible refine IfB_ndec (fun h => ?_) (fun h => ?_) | with_reducible refine IfB_not (fun h => ?_) (fun h => ?_) | with_reducible refine Guard_split (fun h => ?_) (fun h => ?_) | with_reducible refine IfB_split (fun h => ?_) (fun h => ?_))
      refine hK _ _ (g4'.eq ?_)
      simp
  by_cases k2 : kind = 2
  · subst k2
    clear su hfl
    simp only [Chg.putL, Int.reduceEq, if_true, if_false] at hK h4
    refine WC_of_body hT Try.func56 rfl (by simp [Try.f56]) (by simp [Try.f56]) (wx_sound hT _ ?_)
    simp only [Try.f56]
    repeat' (first | simp only [go_sem, Nat.reduceLT, Nat.reduceEqDiff, Nat.reduceAdd, Nat.reduceMul, Nat.reduceSub, Nat.reduceLeDiff, Int.reduceToNat, Int.reduceNeg, Int.reduceLT, Int.reduceLE, Int.reduceEq, reduceCtorEq, Int.natCast_zero, Int.natCast_one, Int.cast_ofNat_Int, Bool.not_not, false_eq_decide, true_eq_decide, hread0, hreadk, read_cons0, read_consk, astore_h0, astore_hk, hget0, hgetk, hset0, hsetk, hlen, hcat, Nat.add_assoc, Nat.add_zero, Nat.zero_add, List.length_append, and_true, true_and, AV.flat, *, -hK, -hkind] | with_reducible refine IfB_dec (fun h => ?_) (fun h => ?_) | with_reducible refine Guard_dec (fun h => ?_) (fun h => ?_) | with_reducible refine Guard_ndec (fun h => ?_) (fun h => ?_) | with_reducible refine Guard_not (fun h => ?_) (fun h => ?_) | with_reducible refine IfB_ndec (fun h => ?_) (fun h => ?_) | with_reducible refine IfB_not (fun h => ?_) (fun h => ?_) | with_reducible refine Guard_split (fun h => ?_) (fun h => ?_) | with_reducible refine IfB_split (fun h => ?_) (fun h => ?_))
    have ov : Ob m (H ++ [(⟨[.int .u8 2, .int .i64 ten, .str ikey, .str ival, .int .u32 ifl, .int .i64 idue, .int .u64 iuniq, .str key, .int .u8 why, .int .i64 to, .bool prim], 0, .full⟩ : Blk), ⟨[.int .u8 2], 1, .full⟩]) v bs := hv.keep0 (Keep.app _ _ _)
    have kb : Bs (H ++ [(⟨[.int .u8 2, .int .i64 ten, .str ikey, .str ival, .int .u32 ifl, .int .i64 idue, .int .u64 iuniq, .str key, .int .u8 why, .int .i64 to, .bool prim], 0, .full⟩ : Blk), ⟨[.int .u8 2], 1, .full⟩]) (.sl (H.length + 1) 0 1 none) [UInt8.ofNat (Int.toNat 2)] := get_vs (by rw [hgetk, hkind]; rfl) rfl rfl
    refine append_gr (m := m) ov se59 az5 td5 rfl (kb.src tk59) (by simp; omega) (by simp; omega) ?_
    intro r1 H1 g1
    have hvb : ∀ b, v.blk = some b → b < H.length := fun b hb => hv.lt hb
    have hb1 := g1.keep.get (b := H.length) (B := ⟨[.int .u8 2, .int .i64 ten, .str ikey, .str ival, .int .u32 ifl, .int .i64 idue, .int .u64 iuniq, .str key, .int .u8 why, .int .i64 to, .bool prim], 0, .full⟩) (by rw [hget0]; rfl) (fun e => by have := hvb _ e; omega)
    have hl1 : H.length + 2 ≤ H1.length := by have := g1.keep.len; simpa using this
    have hr1 := g1.off (p := H.length) (fun b hb => by have := hvb b hb; simp; omega) (by simp)
    have g1' := Grow.pre (Keep.app none H _) g1
    repeat' (first | simp only [go_sem, Nat.reduceLT, Nat.reduceEqDiff, Nat.reduceAdd, Nat.reduceMul, Nat.reduceSub, Nat.reduceLeDiff, Int.reduceToNat, Int.reduceNeg, Int.reduceLT, Int.reduceLE, Int.reduceEq, reduceCtorEq, Int.natCast_zero, Int.natCast_one, Int.cast_ofNat_Int, Bool.not_not, false_eq_decide, true_eq_decide, hread0, hreadk, read_cons0, read_consk, astore_h0, astore_hk, hget0, hgetk, hset0, hsetk, hlen, hcat, Nat.add_assoc, Nat.add_zero, Nat.zero_add, List.length_append, and_true, true_and, AV.flat, hb1, get_app hb1, read_get hb1, read_app hb1, *, -hK, -hkind, -n1, -s1] | with_reducible refine IfB_dec (fun h => ?_) (fun h => ?_) | with_reducible refine Guard_dec (fun h => ?_) (fun h => ?_) | with_reducible refine Guard_ndec (fun h => ?_) (fun h => ?_) | with_reducible refine Guard_not (fun h => ?_) (fun h => ?_) | with_reducible refine IfB_ndec (fun h => ?_) (fun h => ?_) | with_reducible refine IfB_not (fun h => ?_) (fun h => ?_) | with_reducible refine Guard_split (fun h => ?_) (fun h => ?_) | with_reducible refine IfB_split (fun h => ?_) (fun h => ?_))
    refine (nums_spec (m := m) _ _ _ [ten] _ (g1.own.keep0 (Keep.app none H1 [(⟨[.int .i64 ten], 1, .full⟩ : Blk)])) (by simp; omega) (get_vs (by rw [hget0]; rfl) rfl rfl) (fun b hb e => by have := hr1 b e; simp [AV.blk] at hb; omega) (by simp; omega)).mono ?_
    intro r2 H2 g2
    rw [n1] at g2
    have hb2 := g2.keep.get (get_app hb1 _) (fun e => (hr1 _ e).2 rfl)
    have hl2 : H1.length + 1 ≤ H2.length := by have := g2.keep.len; simpa using this
    have hr2 := g2.off (p := H.length) (fun b hb => by have := hr1 b hb; simp; omega) (by simp; omega)
    have g2' := g1'.trans (Grow.pre (Keep.app none H1 _) g2)
    repeat' (first | simp only [go_sem, Nat.reduceLT, Nat.reduceEqDiff, Nat.reduceAdd, Nat.reduceMul, Nat.reduceSub, Nat.reduceLeDiff, Int.reduceToNat, Int.reduceNeg, Int.reduceLT, Int.reduceLE, Int.reduceEq, reduceCtorEq, Int.natCast_zero, Int.natCast_one, Int.cast_ofNat_Int, Bool.not_not, false_eq_decide, true_eq_decide, hread0, hreadk, read_cons0, read_consk, astore_h0, astore_hk, hget0, hgetk, hset0, hsetk, hlen, hcat, Nat.add_assoc, Nat.add_zero, Nat.zero_add, List.length_append, and_true, true_and, AV.flat, hb2, get_app hb2, read_get hb2, read_app hb2, *, -hK, -hkind, -n1, -s1, -hwhy] | with_reducible refine IfB_dec (fun h => ?_) (fun h => ?_) | with_reducible refine Guard_dec (fun h => ?_) (fun h => ?_) | with_reducible refine Guard_ndec (fun h => ?_) (fun h => ?_) | with_reducible refine Guard_not (fun h => ?_) (fun h => ?_) | with_reducible refine IfB_ndec (fun h => ?_) (fun h => ?_) | with_reducible refine IfB_not (fun h => ?_) (fun h => ?_) | with_reducible refine Guard_split (fun h => ?_) (fun h => ?_) | with_reducible refine IfB_split (fun h => ?_) (fun h => ?_))
    refine WX_rows hT hmix [(0, none), (1, none), (2, none), (3, none), (5, none), (6, none), (7, none), (4, some [false, false, false, true, true, true, true]), (8, some [true, true, true, true, true, true, true, true]), (9, none)] (by kernel_rfl) ?_
    repeat' (first | simp only [go_sem, Nat.reduceLT, Nat.reduceEqDiff, Nat.reduceAdd, Nat.reduceMul, Nat.reduceSub, Nat.reduceLeDiff, Int.reduceToNat, Int.reduceNeg, Int.reduceLT, Int.reduceLE, Int.reduceEq, reduceCtorEq, Int.natCast_zero, Int.natCast_one, Int.cast_ofNat_Int, Bool.not_not, false_eq_decide, true_eq_decide, hread0, hreadk, read_cons0, read_consk, astore_h0, astore_hk, hget0, hgetk, hset0, hsetk, hlen, hcat, Nat.add_assoc, Nat.add_zero, Nat.zero_add, List.length_append, and_true, true_and, AV.flat, hb2, get_app hb2, read_get hb2, read_app hb2, *, -hK, -hkind, -n1, -s1, -hwhy] | with_reducible refine IfB_dec (fun h => ?_) (fun h => ?_) | with_reducible refine Guard_dec (fun h => ?_) (fun h => ?_) | with_reducible refine Guard_ndec (fun h => ?_) (fun h => ?_) | with_reducible refine Guard_not (fun h => ?_) (fun h => ?_) | with_reducible refine IfB_ndec (fun h => ?_) (fun h => ?_) | with_reducible refine IfB_not (fun h => ?_) (fun h => ?_) | with_reducible refine Guard_split (fun h => ?_) (fun h => ?_) | with_reducible refine IfB_split (fun h => ?_) (fun h => ?_))
    have tl := textsL_len (l := [key]) (m := 32) (by simp; omega) (by omega)
    simp only [List.length_cons, List.length_nil] at tl
    refine (texts_spec (m := m) _ _ _ [key] _ (g2.own.keep0 (Keep.app none H2 [(⟨[.str key], 1, .full⟩ : Blk), ⟨[.int .u8 why], 1, .full⟩])) (by simp; omega) (get_vs (by rw [hget0]; rfl) rfl rfl) (fun b hb e => by have := hr2 b e; simp [AV.blk] at hb; omega) (by simp; omega) (by simp)).mono ?_
    intro r3 H3 g3
    have hw : H3[H2.length + 1]? = some ⟨[.int .u8 why], 1, .full⟩ := g3.keep.get (by rw [hgetk]; rfl) (fun e => by have := hr2 _ e; omega)
    have hw0 : H3[H2.length]? = some ⟨[.str key], 1, .full⟩ := g3.keep.get (by rw [hget0]; rfl) (fun e => by have := hr2 _ e; omega)
    have hb3 := g3.keep.get (get_app hb2 _) (fun e => (hr2 _ e).2 rfl)
    have hl3 : H2.length + 2 ≤ H3.length := by have := g3.keep.len; simpa using this
    have g3' := g2'.trans (Grow.pre (Keep.app none H2 _) g3)
    repeat' (first | simp only [go_sem, Nat.reduceLT, Nat.reduceEqDiff, Nat.reduceAdd, Nat.reduceMul, Nat.reduceSub, Nat.reduceLeDiff, Int.reduceToNat, Int.reduceNeg, Int.reduceLT, Int.reduceLE, Int.reduceEq, reduceCtorEq, Int.natCast_zero, Int.natCast_one, Int.cast_ofNat_Int, Bool.not_not, false_eq_decide, true_eq_decide, hread0, hreadk, read_cons0, read_consk, astore_h0, astore_hk, hget0, hgetk, hset0, hsetk, hlen, hcat, Nat.add_assoc, Nat.add_zero, Nat.zero_add, List.length_append, and_true, true_and, AV.flat, hb3, get_app hb3, read_get hb3, read_app hb3, *, -hK, -hkind, -n1, -s1, -hwhy] | with_reducible refine IfB_dec (fun h => ?_) (fun h => ?_) | with_reducible refine Guard_dec (fun h => ?_) (fun h => ?_) | with_reducible refine Guard_ndec (fun h => ?_) (fun h => ?_) | with_reducible refine Guard_not (fun h => ?_) (fun h => ?_) | with_reducible refine IfB_ndec (fun h => ?_) (fun h => ?_) | with_reducible refine IfB_not (fun h => ?_) (fun h => ?_) | with_reducible refine Guard_split (fun h => ?_) (fun h => ?_) | with_reducible refine IfB_split (fun h => ?_) (fun h => ?_))
    refine append_gr (m := m) g3.own se59 az5 td5 rfl (r := [UInt8.ofNat why.toNat]) (Bs.src (l := [UInt8.ofNat why.toNat]) (get_vs (by rw [hw, hwhy]) rfl rfl) tk59) (by simp; omega) (by omega) ?_
    intro r4 H4 g4
    have hw4 : H4[H2.length + 1]? = some ⟨[.int .u8 why], 1, .full⟩ := g4.keep.get hw (fun e => by rcases g3.new _ e with h | h; exact absurd h (fun h => by have := hr2 _ h; omega); simp at h)
    have hr3 := g3.off (p := H.length) (fun b hb => by have := hr2 b hb; simp; omega) (by simp <;> omega)
    have hb4 := g4.keep.get hb3 (fun e => (hr3 _ e).2 rfl)
    repeat' (first | simp only [go_sem, Nat.reduceLT, Nat.reduceEqDiff, Nat.reduceAdd, Nat.reduceMul, Nat.reduceSub, Nat.reduceLeDiff, Int.reduceToNat, Int.reduceNeg, Int.reduceLT, Int.reduceLE, Int.reduceEq, reduceCtorEq, Int.natCast_zero, Int.natCast_one, Int.cast_ofNat_Int, Bool.not_not, false_eq_decide, true_eq_decide, hread0, hreadk, read_cons0, read_consk, astore_h0, astore_hk, hget0, hgetk, hset0, hsetk, hlen, hcat, Nat.add_assoc, Nat.add_zero, Nat.zero_add, List.length_append, and_true, true_and, AV.flat, hb4, get_app hb4, read_get hb4, read_app hb4, *, -hK, -hkind, -n1, -s1, -hwhy] | with_reducible refine IfB_dec (fun h => ?_) (fun h => ?_) | with_reducible refine Guard_dec (fun h => ?_) (fun h => ?_) | with_reducible refine Guard_ndec (fun h => ?_) (fun h => ?_) | with_reducible refine Guard_not (fun h => ?_) (fun h => ?_) | with_reducible refine IfB_ndec (fun h => ?_) (fun h => ?_) | with_reducible refine IfB_not (fun h => ?_) (fun h => ?_) | with_reducible refine Guard_split (fun h => ?_) (fun h => ?_) | with_reducible refine IfB_split (fun h => ?_) (fun h => ?_))
    refine hK _ _ ((g3'.trans g4).eq ?_)
    simp [textsL]
  have k1 : kind = 1 := by omega
  subst k1
  clear hwhy k2 k3 k4 k5 k6 k7
  simp only [Chg.putL, Int.reduceEq, if_true, if_false] at hK h4
  refine WC_of_body hT Try.func56 rfl (by simp [Try.f56]) (by simp [Try.f56]) (wx_sound hT _ ?_)
  simp only [Try.f56]
  repeat' (first | simp only [go_sem, Nat.reduceLT, Nat.reduceEqDiff, Nat.reduceAdd, Nat.reduceMul, Nat.reduceSub, Nat.reduceLeDiff, Int.reduceToNat, Int.reduceNeg, Int.reduceLT, Int.reduceLE, Int.reduceEq, reduceCtorEq, Int.natCast_zero, Int.natCast_one, Int.cast_ofNat_Int, Bool.not_not, false_eq_decide, true_eq_decide, hread0, hreadk, read_cons0, read_consk, astore_h0, astore_hk, hget0, hgetk, hset0, hsetk, hlen, hcat, Nat.add_assoc, Nat.add_zero, Nat.zero_add, List.length_append, and_true, true_and, AV.flat, *, -hK, -hkind] | with_reducible refine IfB_dec (fun h => ?_) (fun h => ?_) | with_reducible refine Guard_dec (fun h => ?_) (fun h => ?_) | with_reducible refine Guard_ndec (fun h => ?_) (fun h => ?_) | with_reducible refine Guard_not (fun h => ?_) (fun h => ?_) | with_reducible refine IfB_ndec (fun h => ?_) (fun h => ?_) | with_reducible refine IfB_not (fun h => ?_) (fun h => ?_) | with_reducible refine Guard_split (fun h => ?_) (fun h => ?_) | with_reducible refine IfB_split (fun h => ?_) (fun h => ?_))
  have ov : Ob m (H ++ [(⟨[.int .u8 1, .int .i64 ten, .str ikey, .str ival, .int .u32 ifl, .int .i64 idue, .int .u64 iuniq, .str key, .int .u8 why, .int .i64 to, .bool prim], 0, .full⟩ : Blk), ⟨[.int .u8 1], 1, .full⟩]) v bs := hv.keep0 (Keep.app _ _ _)
  have kb : Bs (H ++ [(⟨[.int .u8 1, .int .i64 ten, .str ikey, .str ival, .int .u32 ifl, .int .i64 idue, .int .u64 iuniq, .str key, .int .u8 why, .int .i64 to, .bool prim], 0, .full⟩ : Blk), ⟨[.int .u8 1], 1, .full⟩]) (.sl (H.length + 1) 0 1 none) [UInt8.ofNat (Int.toNat 1)] := get_vs (by rw [hgetk, hkind]; rfl) rfl rfl
  refine append_gr (m := m) ov se59 az5 td5 rfl (kb.src tk59) (by simp; omega) (by simp; omega) ?_
  intro r1 H1 g1
  have hvb : ∀ b, v.blk = some b → b < H.length := fun b hb => hv.lt hb
  have hb1 := g1.keep.get (b := H.length) (B := ⟨[.int .u8 1, .int .i64 ten, .str ikey, .str ival, .int .u32 ifl, .int .i64 idue, .int .u64 iuniq, .str key, .int .u8 why, .int .i64 to, .bool prim], 0, .full⟩) (by rw [hget0]; rfl) (fun e => by have := hvb _ e; omega)
  have hl1 : H.length + 2 ≤ H1.length := by have := g1.keep.len; simpa using this
  have hr1 := g1.off (p := H.length) (fun b hb => by have := hvb b hb; simp; omega) (by simp)
  have g1' := Grow.pre (Keep.app none H _) g1
  repeat' (first | simp only [go_sem, Nat.reduceLT, Nat.reduceEqDiff, Nat.reduceAdd, Nat.reduceMul, Nat.reduceSub, Nat.reduceLeDiff, Int.reduceToNat, Int.reduceNeg, Int.reduceLT, Int.reduceLE, Int.reduceEq, reduceCtorEq, Int.natCast_zero, Int.natCast_one, Int.cast_ofNat_Int, Bool.not_not, false_eq_decide, true_eq_decide, hread0, hreadk, read_cons0, read_consk, astore_h0, astore_hk, hget0, hgetk, hset0, hsetk, hlen, hcat, Nat.add_assoc, Nat.add_zero, Nat.zero_add, List.length_append, and_true, true_and, AV.flat, hb1, get_app hb1, read_get hb1, read_app hb1, *, -hK, -hkind, -n1, -s1] | with_reducible refine IfB_dec (fun h => ?_) (fun h => ?_) | with_reducible refine Guard_dec (fun h => ?_) (fun h => ?_) | with_reducible refine Guard_ndec (fun h => ?_) (fun h => ?_) | with_reducible refine Guard_not (fun h => ?_) (fun h => ?_) | with_reducible refine IfB_ndec (fun h => ?_) (fun h => ?_) | with_reducible refine IfB_not (fun h => ?_) (fun h => ?_) | with_reducible refine Guard_split (fun h => ?_) (fun h => ?_) | with_reducible refine IfB_split (fun h => ?_) (fun h => ?_))
  refine (nums_spec (m := m) _ _ _ [ten] _ (g1.own.keep0 (Keep.app none H1 [(⟨[.int .i64 ten], 1, .full⟩ : Blk)])) (by simp; omega) (get_vs (by rw [hget0]; rfl) rfl rfl) (fun b hb e => by have := hr1 b e; simp [AV.blk] at hb; omega) (by simp; omega)).mono ?_
  intro r2 H2 g2
  rw [n1] at g2
  have hb2 := g2.keep.get (get_app hb1 _) (fun e => (hr1 _ e).2 rfl)
  have hl2 : H1.length + 1 ≤ H2.length := by have := g2.keep.len; simpa using this
  have hr2 := g2.off (p := H.length) (fun b hb => by have := hr1 b hb; simp; omega) (by simp; omega)
  have g2' := g1'.trans (Grow.pre (Keep.app none H1 _) g2)
  repeat' (first | simp only [go_sem, Nat.reduceLT, Nat.reduceEqDiff, Nat.reduceAdd, Nat.reduceMul, Nat.reduceSub, Nat.reduceLeDiff, Int.reduceToNat, Int.reduceNeg, Int.reduceLT, Int.reduceLE, Int.reduceEq, reduceCtorEq, Int.natCast_zero, Int.natCast_one, Int.cast_ofNat_Int, Bool.not_not, false_eq_decide, true_eq_decide, hread0, hreadk, read_cons0, read_consk, astore_h0, astore_hk, hget0, hgetk, hset0, hsetk, hlen, hcat, Nat.add_assoc, Nat.add_zero, Nat.zero_add, List.length_append, and_true, true_and, AV.flat, hb2, get_app hb2, read_get hb2, read_app hb2, *, -hK, -hkind, -n1, -s1, -hfl, -su] | with_reducible refine IfB_dec (fun h => ?_) (fun h => ?_) | with_reducible refine Guard_dec (fun h => ?_) (fun h => ?_) | with_reducible refine Guard_ndec (fun h => ?_) (fun h => ?_) | with_reducible refine Guard_not (fun h => ?_) (fun h => ?_) | with_reducible refine IfB_ndec (fun h => ?_) (fun h => ?_) | with_reducible refine IfB_not (fun h => ?_) (fun h => ?_) | with_reducible refine Guard_split (fun h => ?_) (fun h => ?_) | with_reducible refine IfB_split (fun h => ?_) (fun h => ?_))
  refine WX_rows hT hmix [(0, none), (1, none), (2, none), (3, none), (4, none), (5, none), (6, none), (7, none), (9, none), (10, none), (11, none), (12, none), (13, none), (14, none), (15, none), (16, none), (8, some [false, false, false, false, false, false, false, false, true, true, true, true, true, true, true, true]), (17, some [true, true, true, true, true, true, true, true, true, true, true, true, true, true, true, true, true]), (18, none)] (by kernel_rfl) ?_
  repeat' (first | simp only [go_sem, Nat.reduceLT, Nat.reduceEqDiff, Nat.reduceAdd, Nat.reduceMul, Nat.reduceSub, Nat.reduceLeDiff, Int.reduceToNat, Int.reduceNeg, Int.reduceLT, Int.reduceLE, Int.reduceEq, reduceCtorEq, Int.natCast_zero, Int.natCast_one, Int.cast_ofNat_Int, Bool.not_not, false_eq_decide, true_eq_decide, hread0, hreadk, read_cons0, read_consk, astore_h0, astore_hk, hget0, hgetk, hset0, hsetk, hlen, hcat, Nat.add_assoc, Nat.add_zero, Nat.zero_add, List.length_append, and_true, true_and, AV.flat, hb2, get_app hb2, read_get hb2, read_app hb2, *, -hK, -hkind, -n1, -s1, -hfl, -su] | with_reducible refine IfB_dec (fun h => ?_) (fun h => ?_) | with_reducible refine Guard_dec (fun h => ?_) (fun h => ?_) | with_reducible refine Guard_ndec (fun h => ?_) (fun h => ?_) | with_reducible refine Guard_not (fun h => ?_) (fun h => ?_) | with_reducible refine IfB_ndec (fun h => ?_) (fun h => ?_) | with_reducible refine IfB_not (fun h => ?_) (fun h => ?_) | with_reducible refine Guard_split (fun h => ?_) (fun h => ?_) | with_reducible refine IfB_split (fun h => ?_) (fun h => ?_))
  rw [hfl]
  have tl := textsL_len (l := [ikey, ival]) (m := 512) (by simp; omega) (by omega)
  simp only [List.length_cons, List.length_nil] at tl
  refine (texts_spec (m := m) _ _ _ [ikey, ival] _ (g2.own.keep0 (Keep.app none H2 [(⟨[.str ikey, .str ival], 1, .full⟩ : Blk), ⟨[.int .i64 ifl, .int .i64 idue], 1, .full⟩])) (by simp; omega) (get_vs (by rw [hget0]; rfl) rfl rfl) (fun b hb e => by have := hr2 b e; simp [AV.blk] at hb; omega) (by simp at s1 ⊢; omega) (by simp)).mono ?_
  intro r3 H3 g3
  have hw : H3[H2.length + 1]? = some ⟨[.int .i64 ifl, .int .i64 idue], 1, .full⟩ := g3.keep.get (by rw [hgetk]; rfl) (fun e => by have := hr2 _ e; omega)
  have hw0 : H3[H2.length]? = some ⟨[.str ikey, .str ival], 1, .full⟩ := g3.keep.get (by rw [hget0]; rfl) (fun e => by have := hr2 _ e; omega)
  have hb3 := g3.keep.get (get_app hb2 _) (fun e => (hr2 _ e).2 rfl)
  have hl3 : H2.length + 2 ≤ H3.length := by have := g3.keep.len; simpa using this
  have g3' := g2'.trans (Grow.pre (Keep.app none H2 _) g3)
  have hr3 := g3.off (p := H.length) (fun b hb => by have := hr2 b hb; simp; omega) (by simp; omega)
  have hr3' := g3.off (p := H2.length + 1) (fun b hb => by have := hr2 b hb; simp; omega) (by simp)
  repeat' (first | simp only [go_sem, Nat.reduceLT, Nat.reduceEqDiff, Nat.reduceAdd, Nat.reduceMul, Nat.reduceSub, Nat.reduceLeDiff, Int.reduceToNat, Int.reduceNeg, Int.reduceLT, Int.reduceLE, Int.reduceEq, reduceCtorEq, Int.natCast_zero, Int.natCast_one, Int.cast_ofNat_Int, Bool.not_not, false_eq_decide, true_eq_decide, hread0, hreadk, read_cons0, read_consk, astore_h0, astore_hk, hget0, hgetk, hset0, hsetk, hlen, hcat, Nat.add_assoc, Nat.add_zero, Nat.zero_add, List.length_append, and_true, true_and, AV.flat, hb3, get_app hb3, read_get hb3, read_app hb3, *, -hK, -hkind, -n1, -s1, -hfl, -su] | with_reducible refine IfB_dec (fun h => ?_) (fun h => ?_) | with_reducible refine Guard_dec (fun h => ?_) (fun h => ?_) | with_reducible refine Guard_ndec (fun h => ?_) (fun h => ?_) | with_reducible refine Guard_not (fun h => ?_) (fun h => ?_) | with_reducible refine IfB_ndec (fun h => ?_) (fun h => ?_) | with_reducible refine IfB_not (fun h => ?_) (fun h => ?_) | with_reducible refine Guard_split (fun h => ?_) (fun h => ?_) | with_reducible refine IfB_split (fun h => ?_) (fun h => ?_))
  refine (nums_spec (m := m) _ _ _ [ifl, idue] _ g3.own (by omega) (get_vs hw rfl rfl) (fun b hb e => by have := hr3' b e; simp [AV.blk] at hb; omega) (by simp at s1 ⊢; omega)).mono ?_
  intro r4 H4 g4
  have hb4 := g4.keep.get hb3 (fun e => (hr3 _ e).2 rfl)
  have hl4 := g4.keep.len
  have g4' := g3'.trans g4
  have nl := numsL_len [ifl, idue]
  simp only [List.length_cons, List.length_nil] at nl
  have hq : numsL [ifl, idue] = small ifl.toNat ++ small idue.toNat := by
    simp only [numsL, List.flatMap_cons, List.flatMap_nil, List.append_nil]
    rw [u64w_id hif.1 (by omega), u64w_id (show 0 ≤ idue by omega) (by omega)]
  have hwr4 : H4[H2.length + 1]? = some ⟨[.int .i64 ifl, .int .i64 idue], 1, .full⟩ := g4.keep.get hw (fun e => (hr3' _ e).2 rfl)
  repeat' (first | simp only [go_sem, Nat.reduceLT, Nat.reduceEqDiff, Nat.reduceAdd, Nat.reduceMul, Nat.reduceSub, Nat.reduceLeDiff, Int.reduceToNat, Int.reduceNeg, Int.reduceLT, Int.reduceLE, Int.reduceEq, reduceCtorEq, Int.natCast_zero, Int.natCast_one, Int.cast_ofNat_Int, Bool.not_not, false_eq_decide, true_eq_decide, hread0, hreadk, read_cons0, read_consk, astore_h0, astore_hk, hget0, hgetk, hset0, hsetk, hlen, hcat, Nat.add_assoc, Nat.add_zero, Nat.zero_add, List.length_append, and_true, true_and, AV.flat, hb4, get_app hb4, read_get hb4, read_app hb4, *, -hK, -hkind, -n1, -s1, -hfl, -su, -hq] | refine WC.call (su _) ?_ | with_reducible refine IfB_dec (fun h => ?_) (fun h => ?_) | with_reducible refine Guard_dec (fun h => ?_) (fun h => ?_) | with_reducible refine Guard_ndec (fun h => ?_) (fun h => ?_) | with_reducible refine Guard_not (fun h => ?_) (fun h => ?_) | with_reducible refine IfB_ndec (fun h => ?_) (fun h => ?_) | with_reducible refine IfB_not (fun h => ?_) (fun h => ?_) | with_reducible refine Guard_split (fun h => ?_) (fun h => ?_) | with_reducible refine IfB_split (fun h => ?_) (fun h => ?_))
  refine append_gr (m := m) g4.own se59 az5 td5 rfl (u8_src tk59) (by simp at s1 ⊢; omega) (by omega) ?_
  intro r5 H5 g5
  repeat' (first | simp only [go_sem, Nat.reduceLT, Nat.reduceEqDiff, Nat.reduceAdd, Nat.reduceMul, Nat.reduceSub, Nat.reduceLeDiff, Int.reduceToNat, Int.reduceNeg, Int.reduceLT, Int.reduceLE, Int.reduceEq, reduceCtorEq, Int.natCast_zero, Int.natCast_one, Int.cast_ofNat_Int, Bool.not_not, false_eq_decide, true_eq_decide, hread0, hreadk, read_cons0, read_consk, astore_h0, astore_hk, hget0, hgetk, hset0, hsetk, hlen, hcat, Nat.add_assoc, Nat.add_zero, Nat.zero_add, List.length_append, and_true, true_and, AV.flat, *, -hK, -hkind, -n1, -s1, -hfl, -su, -hq] | with_reducible refine IfB_dec (fun h => ?_) (fun h => ?_) | with_reducible refine Guard_dec (fun h => ?_) (fun h => ?_) | with_reducible refine Guard_ndec (fun h => ?_) (fun h => ?_) | with_reducible refine Guard_not (fun h => ?_) (fun h => ?_) | with_reducible refine IfB_ndec (fun h => ?_) (fun h => ?_) | with_reducible refine IfB_not (fun h => ?_) (fun h => ?_) | with_reducible refine Guard_split (fun h => ?_) (fun h => ?_) | with_reducible refine IfB_split (fun h => ?_) (fun h => ?_))
  refine hK _ _ ((g4'.trans g5).eq ?_)
  rw [hq]
  simp [textsL]
/-! ### changes as bytes -/
theorem may_step {l : List Chg} {i : Nat} (h : i < l.length) : (l.take (i + 1)).all Chg.mayB = ((l.take i).all Chg.mayB && l[i].mayB) := by
  rw [List.take_succ_eq_append_getElem h, List.all_append]; simp
theorem put_step {l : List Chg} {i : Nat} (h : i < l.length) : (l.take (i + 1)).flatMap Chg.putL = (l.take i).flatMap Chg.putL ++ l[i].putL := by
  rw [List.take_succ_eq_append_getElem h, List.flatMap_append]; simp
theorem put_part (l : List Chg) (i : Nat) : ((l.take i).flatMap Chg.putL).length ≤ (l.flatMap Chg.putL).length := by
  conv => rhs; rw [← List.take_append_drop i l, List.flatMap_append, List.length_append]
  omega
theorem changes_own (l : List Chg) (hl : l.length ≤ 140737488355328) (ho : ∀ c ∈ l, c.Ok) (H : Heap) : WC Try.prog 40 [chgE.lst l] H fun r H' => (∃ b, r = .tup [b, .int .i64 (changesL l).2] ∧ Ob H.length H' b (changesL l).1) ∧ Keep none H H' := by
  refine WC_of_K fun K hK => ?_
  by_cases h1 : l.length > 4096
  · have i1 : (l.length : Int) > 4096 := by omega
    rw [show changesL l = ([], 4) by unfold changesL; rw [if_pos h1]] at hK
    clear h1
    refine WC_of_body hT Try.func40 rfl (by simp [Try.f40]) (by simp [Try.f40]) (wx_sound hT _ ?_)
    simp only [Try.f40]
    repeat' (first | simp only [go_sem, Nat.reduceLT, Nat.reduceEqDiff, Nat.reduceAdd, Nat.reduceMul, Nat.reduceSub, Nat.reduceLeDiff, Int.reduceToNat, Int.reduceNeg, Int.reduceLT, Int.reduceLE, Int.reduceEq, reduceCtorEq, Int.natCast_zero, Int.natCast_one, Int.cast_ofNat_Int, Bool.not_not, false_eq_decide, true_eq_decide, hread0, hreadk, read_cons0, read_consk, astore_h0, astore_hk, hget0, hgetk, hset0, hsetk, hlen, hcat, Nat.add_assoc, Nat.add_zero, Nat.zero_add, List.length_append, and_true, true_and, AV.flat, *, -hK] | with_reducible refine IfB_dec (fun h => ?_) (fun h => ?_) | with_reducible refine Guard_dec (fun h => ?_) (fun h => ?_) | with_reducible refine Guard_ndec (fun h => ?_) (fun h => ?_) | with_reducible refine Guard_not (fun h => ?_) (fun h => ?_) | with_reducible refine IfB_ndec (fun h => ?_) (fun h => ?_) | with_reducible refine IfB_not (fun h => ?_) (fun h => ?_) | with_reducible refine Guard_split (fun h => ?_) (fun h => ?_) | with_reducible refine IfB_split (fun h => ?_) (fun h => ?_))
    exact hK _ _ ⟨⟨_, rfl, Ob.nils _ _⟩, Keep.refl _ _⟩
  have i1 : ¬ (l.length : Int) > 4096 := by omega
  refine WC_of_body hT Try.func40 rfl (by simp [Try.f40]) (by simp [Try.f40]) (wx_sound hT _ ?_)
  simp only [Try.f40]
  repeat' (first | simp only [go_sem, Nat.reduceLT, Nat.reduceEqDiff, Nat.reduceAdd, Nat.reduceMul, Nat.reduceSub, Nat.reduceLeDiff, Int.reduceToNat, Int.reduceNeg, Int.reduceLT, Int.reduceLE, Int.reduceEq, reduceCtorEq, Int.natCast_zero, Int.natCast_one, Int.cast_ofNat_Int, Bool.not_not, false_eq_decide, true_eq_decide, hread0, hreadk, read_cons0, read_consk, astore_h0, astore_hk, hget0, hgetk, hset0, hsetk, hlen, hcat, Nat.add_assoc, Nat.add_zero, Nat.zero_add, List.length_append, and_true, true_and, AV.flat, *, -hK, -h1] | with_reducible refine IfB_dec (fun h => ?_) (fun h => ?_) | with_reducible refine Guard_dec (fun h => ?_) (fun h => ?_) | with_reducible refine Guard_ndec (fun h => ?_) (fun h => ?_) | with_reducible refine Guard_not (fun h => ?_) (fun h => ?_) | with_reducible refine IfB_ndec (fun h => ?_) (fun h => ?_) | with_reducible refine IfB_not (fun h => ?_) (fun h => ?_) | with_reducible refine Guard_split (fun h => ?_) (fun h => ?_) | with_reducible refine IfB_split (fun h => ?_) (fun h => ?_))
  refine WX_loopS [0, 12, 13] (fun k fr' H' => ∃ i : Nat, k = l.length - i ∧ i ≤ l.length ∧ fr'.get 14 = .int .i64 i ∧ (l.take i).all Chg.mayB = true ∧ Keep none H H') l.length ⟨0, rfl, by omega, by simp only [go_sem, Nat.reduceLT, Nat.reduceEqDiff, Nat.reduceAdd, Nat.reduceMul, Nat.reduceSub, Nat.reduceLeDiff, Int.reduceToNat, Int.reduceNeg, Int.reduceLT, Int.reduceLE, Int.reduceEq, reduceCtorEq]; rfl, by simp, Keep.refl _ _⟩ ?_
  rintro k fr' H1 A R hA hs hg hR ⟨i, rfl, hi, f14, hall, kk⟩
  have s0 := hg 0 (by decide)
  have s12 := hg 12 (by decide)
  have s13 := hg 13 (by decide)
  simp only [Fr.get_put, Fr.get_init, List.getD_cons_zero, List.getD_cons_succ, Nat.reduceEqDiff, if_true, if_false] at s0 s12 s13
  refine wx_sound hT _ ?_
  by_cases hlt : i < l.length
  · have e1 := at_enc (E := chgE) (T := T) (k := .i64) se25 hlt rfl
    have e3 := inc_id hlt hl
    have hlti : (i : Int) < l.length := by omega
    have sm := fun J => may_spec l[i] J
    unfold Chg.av at sm
    rw [chgE_cells] at e1
    cases hm : l[i].mayB with
    | true =>
      rw [hm] at sm
      repeat' (first | simp only [go_sem, Nat.reduceLT, Nat.reduceEqDiff, Nat.reduceAdd, Nat.reduceMul, Nat.reduceSub, Nat.reduceLeDiff, Int.reduceToNat, Int.reduceNeg, Int.reduceLT, Int.reduceLE, Int.reduceEq, reduceCtorEq, Int.natCast_zero, Int.natCast_one, Int.cast_ofNat_Int, Bool.not_not, false_eq_decide, true_eq_decide, hread0, hreadk, read_cons0, read_consk, astore_h0, astore_hk, hget0, hgetk, hset0, hsetk, hlen, hcat, Nat.add_assoc, Nat.add_zero, Nat.zero_add, List.length_append, and_true, true_and, AV.flat, *, -hK, -hall, -sm, -hm, -h1] | refine WC.call (sm _) ?_ | with_reducible refine IfB_dec (fun h => ?_) (fun h => ?_) | with_reducible refine Guard_dec (fun h => ?_) (fun h => ?_) | with_reducible refine Guard_ndec (fun h => ?_) (fun h => ?_) | with_reducible refine Guard_not (fun h => ?_) (fun h => ?_) | with_reducible refine IfB_ndec (fun h => ?_) (fun h => ?_) | with_reducible refine IfB_not (fun h => ?_) (fun h => ?_) | with_reducible refine Guard_split (fun h => ?_) (fun h => ?_) | with_reducible refine IfB_split (fun h => ?_) (fun h => ?_))
      exact hR _ _ (by (repeat (first | exact hs | refine hA _ _ _ (by decide) ?_))) (l.length - (i + 1)) (by omega) ⟨i + 1, rfl, by omega, by simp only [go_sem, Nat.reduceLT, Nat.reduceEqDiff, Nat.reduceAdd, Nat.reduceMul, Nat.reduceSub, Nat.reduceLeDiff, Int.reduceToNat, Int.reduceNeg, Int.reduceLT, Int.reduceLE, Int.reduceEq, reduceCtorEq], by rw [may_step hlt, hall, hm]; rfl, kk.trans (Keep.app _ _ _)⟩
    | false =>
      rw [hm] at sm
      have hf : l.all Chg.mayB = false := by rw [List.all_eq_false]; exact ⟨_, List.getElem_mem hlt, by simp [hm]⟩
      rw [show changesL l = ([], 8) by unfold changesL; rw [if_neg h1, if_pos hf]] at hK
      repeat' (first | simp only [go_sem, Nat.reduceLT, Nat.reduceEqDiff, Nat.reduceAdd, Nat.reduceMul, Nat.reduceSub, Nat.reduceLeDiff, Int.reduceToNat, Int.reduceNeg, Int.reduceLT, Int.reduceLE, Int.reduceEq, reduceCtorEq, Int.natCast_zero, Int.natCast_one, Int.cast_ofNat_Int, Bool.not_not, false_eq_decide, true_eq_decide, hread0, hreadk, read_cons0, read_consk, astore_h0, astore_hk, hget0, hgetk, hset0, hsetk, hlen, hcat, Nat.add_assoc, Nat.add_zero, Nat.zero_add, List.length_append, and_true, true_and, AV.flat, *, -hK, -hall, -sm, -hm, -h1, -hf] | refine WC.call (sm _) ?_ | with_reducible refine IfB_dec (fun h => ?_) (fun h => ?_) | with_reducible refine Guard_dec (fun h => ?_) (fun h => ?_) | with_reducible refine Guard_ndec (fun h => ?_) (fun h => ?_) | with_reducible refine Guard_not (fun h => ?_) (fun h => ?_) | with_reducible refine IfB_ndec (fun h => ?_) (fun h => ?_) | with_reducible refine IfB_not (fun h => ?_) (fun h => ?_) | with_reducible refine Guard_split (fun h => ?_) (fun h => ?_) | with_reducible refine IfB_split (fun h => ?_) (fun h => ?_))
      exact hK _ _ ⟨⟨_, rfl, Ob.nils _ _⟩, kk.trans (Keep.app _ _ _)⟩
  have hlti : ¬ (i : Int) < l.length := by omega
  have hin : i = l.length := by omega
  rw [hin, List.take_length] at hall
  have hmay : ∀ c ∈ l, c.mayB = true := List.all_eq_true.1 hall
  clear hR hA hs hg hin
  repeat' (first | simp only [go_sem, Nat.reduceLT, Nat.reduceEqDiff, Nat.reduceAdd, Nat.reduceMul, Nat.reduceSub, Nat.reduceLeDiff, Int.reduceToNat, Int.reduceNeg, Int.reduceLT, Int.reduceLE, Int.reduceEq, reduceCtorEq, Int.natCast_zero, Int.natCast_one, Int.cast_ofNat_Int, Bool.not_not, false_eq_decide, true_eq_decide, hread0, hreadk, read_cons0, read_consk, astore_h0, astore_hk, hget0, hgetk, hset0, hsetk, hlen, hcat, Nat.add_assoc, Nat.add_zero, Nat.zero_add, List.length_append, and_true, true_and, AV.flat, *, -hK, -hall, -h1] | with_reducible refine IfB_dec (fun h => ?_) (fun h => ?_) | with_reducible refine Guard_dec (fun h => ?_) (fun h => ?_) | with_reducible refine Guard_ndec (fun h => ?_) (fun h => ?_) | with_reducible refine Guard_not (fun h => ?_) (fun h => ?_) | with_reducible refine IfB_ndec (fun h => ?_) (fun h => ?_) | with_reducible refine IfB_not (fun h => ?_) (fun h => ?_) | with_reducible refine Guard_split (fun h => ?_) (fun h => ?_) | with_reducible refine IfB_split (fun h => ?_) (fun h => ?_))
  refine (nums_spec (m := H.length) _ _ [] [(l.length : Int)] _ (Ob.nils _ _) (by have := kk.len; simp; omega) (get_vs (by rw [hget0]; rfl) rfl rfl) (by simp [AV.blk]) (by simp)).mono ?_
  intro r2 H2 g2
  have hn := num1 (x := (l.length : Int)) (by omega) (by omega)
  have hs10 := small_len10 (n := l.length) (by omega)
  rw [hn, List.nil_append, Int.toNat_natCast] at g2
  have k2 : Keep none H H2 := g2.keep0 (kk.trans (Keep.app none H1 _)) (by simp [AV.blk])
  have o2 := g2.own
  clear g2 hn
  repeat' (first | simp only [go_sem, Nat.reduceLT, Nat.reduceEqDiff, Nat.reduceAdd, Nat.reduceMul, Nat.reduceSub, Nat.reduceLeDiff, Int.reduceToNat, Int.reduceNeg, Int.reduceLT, Int.reduceLE, Int.reduceEq, reduceCtorEq, Int.natCast_zero, Int.natCast_one, Int.cast_ofNat_Int, Bool.not_not, false_eq_decide, true_eq_decide, hread0, hreadk, read_cons0, read_consk, astore_h0, astore_hk, hget0, hgetk, hset0, hsetk, hlen, hcat, Nat.add_assoc, Nat.add_zero, Nat.zero_add, List.length_append, and_true, true_and, AV.flat, *, -hK, -hall, -h1, -hmay, -hs10] | with_reducible refine IfB_dec (fun h => ?_) (fun h => ?_) | with_reducible refine Guard_dec (fun h => ?_) (fun h => ?_) | with_reducible refine Guard_ndec (fun h => ?_) (fun h => ?_) | with_reducible refine Guard_not (fun h => ?_) (fun h => ?_) | with_reducible refine IfB_ndec (fun h => ?_) (fun h => ?_) | with_reducible refine IfB_not (fun h => ?_) (fun h => ?_) | with_reducible refine Guard_split (fun h => ?_) (fun h => ?_) | with_reducible refine IfB_split (fun h => ?_) (fun h => ?_))
  refine WX_loopS [26, 27] (fun k fr' H' => ∃ (j : Nat) (a : AV), k = l.length - j ∧ j ≤ l.length ∧ fr'.get 28 = .int .i64 j ∧ fr'.get 6 = a ∧ Ob H.length H' a (small l.length ++ (l.take j).flatMap Chg.putL) ∧ (small l.length ++ (l.take j).flatMap Chg.putL).length ≤ 65536 ∧ Keep none H H') l.length ⟨0, r2, rfl, by omega, by simp only [go_sem, Nat.reduceLT, Nat.reduceEqDiff, Nat.reduceAdd, Nat.reduceMul, Nat.reduceSub, Nat.reduceLeDiff, Int.reduceToNat, Int.reduceNeg, Int.reduceLT, Int.reduceLE, Int.reduceEq, reduceCtorEq]; rfl, by simp only [go_sem, Nat.reduceLT, Nat.reduceEqDiff, Nat.reduceAdd, Nat.reduceMul, Nat.reduceSub, Nat.reduceLeDiff, Int.reduceToNat, Int.reduceNeg, Int.reduceLT, Int.reduceLE, Int.reduceEq, reduceCtorEq], by simpa using o2, by simp; omega, k2⟩ ?_
  clear hlti hi f14 o2 k2 kk
  rintro k fr' H3 A R hA hs hg hR ⟨j, a, rfl, hj, f28, f6, oa, hle, kk⟩
  have s26 := hg 26 (by decide)
  have s27 := hg 27 (by decide)
  simp only [Fr.get_put, Fr.get_init, List.getD_cons_zero, List.getD_cons_succ, Nat.reduceEqDiff, if_true, if_false] at s26 s27
  refine wx_sound hT _ ?_
  by_cases hlt : j < l.length
  rotate_left
  · have hlti : ¬ (j : Int) < l.length := by omega
    have hjn : j = l.length := by omega
    rw [hjn, List.take_length] at oa hle
    rw [show changesL l = (small l.length ++ l.flatMap Chg.putL, 0) by unfold changesL; rw [if_neg h1, if_neg (by rw [hall]; simp), if_neg (by omega)]] at hK
    repeat' (first | simp only [go_sem, Nat.reduceLT, Nat.reduceEqDiff, Nat.reduceAdd, Nat.reduceMul, Nat.reduceSub, Nat.reduceLeDiff, Int.reduceToNat, Int.reduceNeg, Int.reduceLT, Int.reduceLE, Int.reduceEq, reduceCtorEq, Int.natCast_zero, Int.natCast_one, Int.cast_ofNat_Int, Bool.not_not, false_eq_decide, true_eq_decide, hread0, hreadk, read_cons0, read_consk, astore_h0, astore_hk, hget0, hgetk, hset0, hsetk, hlen, hcat, Nat.add_assoc, Nat.add_zero, Nat.zero_add, List.length_append, and_true, true_and, AV.flat, *, -hK, -hall, -h1, -hmay, -hs10, -hle, -oa, -hjn] | with_reducible refine IfB_dec (fun h => ?_) (fun h => ?_) | with_reducible refine Guard_dec (fun h => ?_) (fun h => ?_) | with_reducible refine Guard_ndec (fun h => ?_) (fun h => ?_) | with_reducible refine Guard_not (fun h => ?_) (fun h => ?_) | with_reducible refine IfB_ndec (fun h => ?_) (fun h => ?_) | with_reducible refine IfB_not (fun h => ?_) (fun h => ?_) | with_reducible refine Guard_split (fun h => ?_) (fun h => ?_) | with_reducible refine IfB_split (fun h => ?_) (fun h => ?_))
    exact hK _ _ ⟨⟨_, rfl, oa⟩, kk⟩
  have hlti : (j : Int) < l.length := by omega
  have e1 := at_enc (E := chgE) (T := T) (k := .i64) se25 hlt rfl
  have e3 := inc_id hlt hl
  rw [chgE_cells] at e1
  repeat' (first | simp only [go_sem, Nat.reduceLT, Nat.reduceEqDiff, Nat.reduceAdd, Nat.reduceMul, Nat.reduceSub, Nat.reduceLeDiff, Int.reduceToNat, Int.reduceNeg, Int.reduceLT, Int.reduceLE, Int.reduceEq, reduceCtorEq, Int.natCast_zero, Int.natCast_one, Int.cast_ofNat_Int, Bool.not_not, false_eq_decide, true_eq_decide, hread0, hreadk, read_cons0, read_consk, astore_h0, astore_hk, hget0, hgetk, hset0, hsetk, hlen, hcat, Nat.add_assoc, Nat.add_zero, Nat.zero_add, List.length_append, and_true, true_and, AV.flat, *, -hK, -hall, -h1, -hmay, -hs10, -hle, -oa] | with_reducible refine IfB_dec (fun h => ?_) (fun h => ?_) | with_reducible refine Guard_dec (fun h => ?_) (fun h => ?_) | with_reducible refine Guard_ndec (fun h => ?_) (fun h => ?_) | with_reducible refine Guard_not (fun h => ?_) (fun h => ?_) | with_reducible refine IfB_ndec (fun h => ?_) (fun h => ?_) | with_reducible refine IfB_not (fun h => ?_) (fun h => ?_) | with_reducible refine Guard_split (fun h => ?_) (fun h => ?_) | with_reducible refine IfB_split (fun h => ?_) (fun h => ?_))
  have pp := put_spec (m := H.length) a _ l[j] (ho _ (List.getElem_mem hlt)) (hmay _ (List.getElem_mem hlt)) _ (oa.keep0 (Keep.app none H3 [(⟨l[j].cs, 0, .full⟩ : Blk)])) (by have := kk.len; simp; omega) (by omega)
  unfold Chg.av Chg.cs at pp
  refine pp.mono ?_
  clear pp
  intro r4 H4 g4
  have k4 : Keep none H H4 := g4.keep0 (kk.trans (Keep.app none H3 _)) (fun b hb => oa.ge hb)
  have o4 := g4.own
  rw [List.append_assoc, ← put_step hlt] at o4
  have al := o4.bs.alen tk59
  clear g4
  by_cases hbig : (small l.length ++ (l.take (j + 1)).flatMap Chg.putL).length > 65536
  · have ib : ((small l.length ++ (l.take (j + 1)).flatMap Chg.putL).length : Int) > 65536 := by omega
    have hpp := put_part l (j + 1)
    rw [show changesL l = ([], 3) by unfold changesL; rw [if_neg h1, if_neg (by rw [hall]; simp), if_pos (by simp only [List.length_append] at hbig ⊢; omega)]] at hK
    generalize (small l.length ++ (l.take (j + 1)).flatMap Chg.putL) = bb at *
    clear hpp hbig hle
    repeat' (first | simp only [go_sem, Nat.reduceLT, Nat.reduceEqDiff, Nat.reduceAdd, Nat.reduceMul, Nat.reduceSub, Nat.reduceLeDiff, Int.reduceToNat, Int.reduceNeg, Int.reduceLT, Int.reduceLE, Int.reduceEq, reduceCtorEq, Int.natCast_zero, Int.natCast_one, Int.cast_ofNat_Int, Bool.not_not, false_eq_decide, true_eq_decide, hread0, hreadk, read_cons0, read_consk, astore_h0, astore_hk, hget0, hgetk, hset0, hsetk, hlen, hcat, Nat.add_assoc, Nat.add_zero, Nat.zero_add, List.length_append, and_true, true_and, AV.flat, *, -hK, -hall, -h1, -hmay, -hs10, -oa, -o4] | with_reducible refine IfB_dec (fun h => ?_) (fun h => ?_) | with_reducible refine Guard_dec (fun h => ?_) (fun h => ?_) | with_reducible refine Guard_ndec (fun h => ?_) (fun h => ?_) | with_reducible refine Guard_not (fun h => ?_) (fun h => ?_) | with_reducible refine IfB_ndec (fun h => ?_) (fun h => ?_) | with_reducible refine IfB_not (fun h => ?_) (fun h => ?_) | with_reducible refine Guard_split (fun h => ?_) (fun h => ?_) | with_reducible refine IfB_split (fun h => ?_) (fun h => ?_))
    exact hK _ _ ⟨⟨_, rfl, Ob.nils _ _⟩, k4⟩
  have ib : ¬ ((small l.length ++ (l.take (j + 1)).flatMap Chg.putL).length : Int) > 65536 := by omega
  have hbb : (small l.length ++ (l.take (j + 1)).flatMap Chg.putL).length ≤ 65536 := by omega
  have back : ∀ fr2, A fr2 → fr2.get 28 = .int .i64 ((j + 1 : Nat) : Int) → fr2.get 6 = r4 → R fr2 H4 := fun fr2 ha h1 h2 => hR fr2 H4 ha (l.length - (j + 1)) (by omega) ⟨j + 1, r4, rfl, by omega, h1, h2, o4, hbb, k4⟩
  clear hR
  generalize (small l.length ++ (l.take (j + 1)).flatMap Chg.putL) = bb at *
  repeat' (first | simp only [go_sem, Nat.reduceLT, Nat.reduceEqDiff, Nat.reduceAdd, Nat.reduceMul, Nat.reduceSub, Nat.reduceLeDiff, Int.reduceToNat, Int.reduceNeg, Int.reduceLT, Int.reduceLE, Int.reduceEq, reduceCtorEq, Int.natCast_zero, Int.natCast_one, Int.cast_ofNat_Int, Bool.not_not, false_eq_decide, true_eq_decide, hread0, hreadk, read_cons0, read_consk, astore_h0, astore_hk, hget0, hgetk, hset0, hsetk, hlen, hcat, Nat.add_assoc, Nat.add_zero, Nat.zero_add, List.length_append, and_true, true_and, AV.flat, *, -hK, -hall, -h1, -hmay, -hs10, -hle, -oa, -o4, -hbb, -back, -hbig] | with_reducible refine IfB_dec (fun h => ?_) (fun h => ?_) | with_reducible refine Guard_dec (fun h => ?_) (fun h => ?_) | with_reducible refine Guard_ndec (fun h => ?_) (fun h => ?_) | with_reducible refine Guard_not (fun h => ?_) (fun h => ?_) | with_reducible refine IfB_ndec (fun h => ?_) (fun h => ?_) | with_reducible refine IfB_not (fun h => ?_) (fun h => ?_) | with_reducible refine Guard_split (fun h => ?_) (fun h => ?_) | with_reducible refine IfB_split (fun h => ?_) (fun h => ?_))
  exact back _ (by (repeat (first | exact hs | refine hA _ _ _ (by decide) ?_))) (by simp only [go_sem, Nat.reduceLT, Nat.reduceEqDiff, Nat.reduceAdd, Nat.reduceMul, Nat.reduceSub, Nat.reduceLeDiff, Int.reduceToNat, Int.reduceNeg, Int.reduceLT, Int.reduceLE, Int.reduceEq, reduceCtorEq]) (by simp only [go_sem, Nat.reduceLT, Nat.reduceEqDiff, Nat.reduceAdd, Nat.reduceMul, Nat.reduceSub, Nat.reduceLeDiff, Int.reduceToNat, Int.reduceNeg, Int.reduceLT, Int.reduceLE, Int.reduceEq, reduceCtorEq])
theorem heavyC_spec (l : List Chg) (hl : l.length ≤ 140737488355328) (H : Heap) : WC Try.prog 10 [chgE.lst l] H fun r H' => (∃ b, r = .bool b ∧ (b = false → l.length ≤ 5000)) ∧ H' = H := by
  refine WC_of_K fun K hK => ?_
  refine WC_of_body hT Try.func10 rfl (by simp [Try.f10]) (by simp [Try.f10]) (wx_sound hT _ ?_)
  simp only [Try.f10]
  repeat' (first | simp only [go_sem, Nat.reduceLT, Nat.reduceEqDiff, Nat.reduceAdd, Nat.reduceMul, Nat.reduceSub, Nat.reduceLeDiff, Int.reduceToNat, Int.reduceNeg, Int.reduceLT, Int.reduceLE, Int.reduceEq, reduceCtorEq, Int.natCast_zero, Int.natCast_one, Int.cast_ofNat_Int, Bool.not_not, false_eq_decide, true_eq_decide, hread0, hreadk, read_cons0, read_consk, astore_h0, astore_hk, hget0, hgetk, hset0, hsetk, hlen, hcat, Nat.add_assoc, Nat.add_zero, Nat.zero_add, List.length_append, and_true, true_and, AV.flat, *, -hK] | with_reducible refine IfB_dec (fun h => ?_) (fun h => ?_) | with_reducible refine Guard_dec (fun h => ?_) (fun h => ?_) | with_reducible refine Guard_ndec (fun h => ?_) (fun h => ?_) | with_reducible refine Guard_not (fun h => ?_) (fun h => ?_) | with_reducible refine IfB_ndec (fun h => ?_) (fun h => ?_) | with_reducible refine IfB_not (fun h => ?_) (fun h => ?_) | with_reducible refine Guard_split (fun h => ?_) (fun h => ?_) | with_reducible refine IfB_split (fun h => ?_) (fun h => ?_))
  refine WX_loopS [0] (fun k fr' H' => ∃ (i : Nat) (n : Int), k = l.length - i ∧ i ≤ l.length ∧ fr'.get 4 = .int .i64 i ∧ fr'.get 3 = .int .i64 n ∧ H' = H) l.length ⟨0, 0, rfl, by omega, by simp only [go_sem, Nat.reduceLT, Nat.reduceEqDiff, Nat.reduceAdd, Nat.reduceMul, Nat.reduceSub, Nat.reduceLeDiff, Int.reduceToNat, Int.reduceNeg, Int.reduceLT, Int.reduceLE, Int.reduceEq, reduceCtorEq]; rfl, by simp only [go_sem, Nat.reduceLT, Nat.reduceEqDiff, Nat.reduceAdd, Nat.reduceMul, Nat.reduceSub, Nat.reduceLeDiff, Int.reduceToNat, Int.reduceNeg, Int.reduceLT, Int.reduceLE, Int.reduceEq, reduceCtorEq], rfl⟩ ?_
  rintro k fr' H1 A R hA hs hg hR ⟨i, n, rfl, hi, f4, f3, rfl⟩
  have s0 := hg 0 (by decide)
  simp only [Fr.get_put, Fr.get_init, List.getD_cons_zero, List.getD_cons_succ, Nat.reduceEqDiff, if_true, if_false] at s0
  refine wx_sound hT _ ?_
  by_cases hlt : i < l.length ∧ i < 10000
  · obtain ⟨hlt, hl2⟩ := hlt
    have e1 := at_enc (E := chgE) (T := T) (k := .i64) se25 hlt rfl
    have e3 := inc_id hlt hl
    have i1 : (i : Int) < l.length := by omega
    have i2 : (i : Int) < 10000 := by omega
    rw [chgE_cells] at e1
    generalize l[i] = c at *
    obtain ⟨k1, t1, a1, b1, f1, d1, u1, y1, w1, o1, p1⟩ := c
    simp only at e1
    clear hlt hl2
    repeat' (first | simp only [go_sem, Nat.reduceLT, Nat.reduceEqDiff, Nat.reduceAdd, Nat.reduceMul, Nat.reduceSub, Nat.reduceLeDiff, Int.reduceToNat, Int.reduceNeg, Int.reduceLT, Int.reduceLE, Int.reduceEq, reduceCtorEq, Int.natCast_zero, Int.natCast_one, Int.cast_ofNat_Int, Bool.not_not, false_eq_decide, true_eq_decide, hread0, hreadk, read_cons0, read_consk, astore_h0, astore_hk, hget0, hgetk, hset0, hsetk, hlen, hcat, Nat.add_assoc, Nat.add_zero, Nat.zero_add, List.length_append, and_true, true_and, AV.flat, *, -hK] | with_reducible refine IfB_dec (fun h => ?_) (fun h => ?_) | with_reducible refine Guard_dec (fun h => ?_) (fun h => ?_) | with_reducible refine Guard_ndec (fun h => ?_) (fun h => ?_) | with_reducible refine Guard_not (fun h => ?_) (fun h => ?_) | with_reducible refine IfB_ndec (fun h => ?_) (fun h => ?_) | with_reducible refine IfB_not (fun h => ?_) (fun h => ?_) | with_reducible refine Guard_split (fun h => ?_) (fun h => ?_) | with_reducible refine IfB_split (fun h => ?_) (fun h => ?_))
    refine WX_rows hT hmix [(0, none), (1, none), (2, none), (3, none), (4, none), (5, none), (6, none), (7, none), (8, none), (9, none), (10, none), (11, none), (12, none), (13, none), (14, none), (15, none), (16, none), (17, none), (18, none), (19, none), (20, none), (21, none), (22, none), (23, none), (24, none), (25, none), (26, none), (27, none)] (by kernel_rfl) ?_
    simp only [List.append_eq, List.cons_append, List.nil_append]
    repeat' (first | simp only [go_sem, Nat.reduceLT, Nat.reduceEqDiff, Nat.reduceAdd, Nat.reduceMul, Nat.reduceSub, Nat.reduceLeDiff, Int.reduceToNat, Int.reduceNeg, Int.reduceLT, Int.reduceLE, Int.reduceEq, reduceCtorEq, Int.natCast_zero, Int.natCast_one, Int.cast_ofNat_Int, Bool.not_not, false_eq_decide, true_eq_decide, hread0, hreadk, read_cons0, read_consk, astore_h0, astore_hk, hget0, hgetk, hset0, hsetk, hlen, hcat, Nat.add_assoc, Nat.add_zero, Nat.zero_add, List.length_append, and_true, true_and, AV.flat, *, -hK] | with_reducible refine IfB_dec (fun h => ?_) (fun h => ?_) | with_reducible refine Guard_dec (fun h => ?_) (fun h => ?_) | with_reducible refine Guard_ndec (fun h => ?_) (fun h => ?_) | with_reducible refine Guard_not (fun h => ?_) (fun h => ?_) | with_reducible refine IfB_ndec (fun h => ?_) (fun h => ?_) | with_reducible refine IfB_not (fun h => ?_) (fun h => ?_) | with_reducible refine Guard_split (fun h => ?_) (fun h => ?_) | with_reducible refine IfB_split (fun h => ?_) (fun h => ?_))
    exact hR _ _ (by (repeat (first | exact hs | refine hA _ _ _ (by decide) ?_))) (l.length - (i + 1)) (by omega) ⟨i + 1, _, rfl, by omega, by simp only [go_sem, Nat.reduceLT, Nat.reduceEqDiff, Nat.reduceAdd, Nat.reduceMul, Nat.reduceSub, Nat.reduceLeDiff, Int.reduceToNat, Int.reduceNeg, Int.reduceLT, Int.reduceLE, Int.reduceEq, reduceCtorEq], by simp only [go_sem, Nat.reduceLT, Nat.reduceEqDiff, Nat.reduceAdd, Nat.reduceMul, Nat.reduceSub, Nat.reduceLeDiff, Int.reduceToNat, Int.reduceNeg, Int.reduceLT, Int.reduceLE, Int.reduceEq, reduceCtorEq]; rfl, rfl⟩
  by_cases h5 : l.length > 5000
  · have i5 : (l.length : Int) > 5000 := by omega
    by_cases i1 : (i : Int) < l.length
    · have i2 : ¬ (i : Int) < 10000 := by omega
      clear hlt h5
      repeat' (first | simp only [go_sem, Nat.reduceLT, Nat.reduceEqDiff, Nat.reduceAdd, Nat.reduceMul, Nat.reduceSub, Nat.reduceLeDiff, Int.reduceToNat, Int.reduceNeg, Int.reduceLT, Int.reduceLE, Int.reduceEq, reduceCtorEq, Int.natCast_zero, Int.natCast_one, Int.cast_ofNat_Int, Bool.not_not, false_eq_decide, true_eq_decide, hread0, hreadk, read_cons0, read_consk, astore_h0, astore_hk, hget0, hgetk, hset0, hsetk, hlen, hcat, Nat.add_assoc, Nat.add_zero, Nat.zero_add, List.length_append, and_true, true_and, AV.flat, *, -hK] | with_reducible refine IfB_dec (fun h => ?_) (fun h => ?_) | with_reducible refine Guard_dec (fun h => ?_) (fun h => ?_) | with_reducible refine Guard_ndec (fun h => ?_) (fun h => ?_) | with_reducible refine Guard_not (fun h => ?_) (fun h => ?_) | with_reducible refine IfB_ndec (fun h => ?_) (fun h => ?_) | with_reducible refine IfB_not (fun h => ?_) (fun h => ?_) | with_reducible refine Guard_split (fun h => ?_) (fun h => ?_) | with_reducible refine IfB_split (fun h => ?_) (fun h => ?_))
      exact hK _ _ ⟨⟨true, rfl, by simp⟩, rfl⟩
    · clear hlt h5
      repeat' (first | simp only [go_sem, Nat.reduceLT, Nat.reduceEqDiff, Nat.reduceAdd, Nat.reduceMul, Nat.reduceSub, Nat.reduceLeDiff, Int.reduceToNat, Int.reduceNeg, Int.reduceLT, Int.reduceLE, Int.reduceEq, reduceCtorEq, Int.natCast_zero, Int.natCast_one, Int.cast_ofNat_Int, Bool.not_not, false_eq_decide, true_eq_decide, hread0, hreadk, read_cons0, read_consk, astore_h0, astore_hk, hget0, hgetk, hset0, hsetk, hlen, hcat, Nat.add_assoc, Nat.add_zero, Nat.zero_add, List.length_append, and_true, true_and, AV.flat, *, -hK] | with_reducible refine IfB_dec (fun h => ?_) (fun h => ?_) | with_reducible refine Guard_dec (fun h => ?_) (fun h => ?_) | with_reducible refine Guard_ndec (fun h => ?_) (fun h => ?_) | with_reducible refine Guard_not (fun h => ?_) (fun h => ?_) | with_reducible refine IfB_ndec (fun h => ?_) (fun h => ?_) | with_reducible refine IfB_not (fun h => ?_) (fun h => ?_) | with_reducible refine Guard_split (fun h => ?_) (fun h => ?_) | with_reducible refine IfB_split (fun h => ?_) (fun h => ?_))
      exact hK _ _ ⟨⟨true, rfl, by simp⟩, rfl⟩
  have i5 : ¬ (l.length : Int) > 5000 := by omega
  have i1 : ¬ (i : Int) < l.length := by omega
  have h5' : l.length ≤ 5000 := by omega
  clear hlt h5
  repeat' (first | simp only [go_sem, Nat.reduceLT, Nat.reduceEqDiff, Nat.reduceAdd, Nat.reduceMul, Nat.reduceSub, Nat.reduceLeDiff, Int.reduceToNat, Int.reduceNeg, Int.reduceLT, Int.reduceLE, Int.reduceEq, reduceCtorEq, Int.natCast_zero, Int.natCast_one, Int.cast_ofNat_Int, Bool.not_not, false_eq_decide, true_eq_decide, hread0, hreadk, read_cons0, read_consk, astore_h0, astore_hk, hget0, hgetk, hset0, hsetk, hlen, hcat, Nat.add_assoc, Nat.add_zero, Nat.zero_add, List.length_append, and_true, true_and, AV.flat, *, -hK] | with_reducible refine IfB_dec (fun h => ?_) (fun h => ?_) | with_reducible refine Guard_dec (fun h => ?_) (fun h => ?_) | with_reducible refine Guard_ndec (fun h => ?_) (fun h => ?_) | with_reducible refine Guard_not (fun h => ?_) (fun h => ?_) | with_reducible refine IfB_ndec (fun h => ?_) (fun h => ?_) | with_reducible refine IfB_not (fun h => ?_) (fun h => ?_) | with_reducible refine Guard_split (fun h => ?_) (fun h => ?_) | with_reducible refine IfB_split (fun h => ?_) (fun h => ?_))
  all_goals exact hK _ _ ⟨⟨_, rfl, fun _ => h5'⟩, rfl⟩
end Go.Proofs.Ytccfhighlpfdmaa

