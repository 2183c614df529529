import Derived.Test.YtakmlfbejbelaaaCodeM4
set_option linter.unusedSimpArgs false
set_option linter.unusedVariables false
set_option maxRecDepth 100000
set_option maxHeartbeats 4000000
namespace Go.Proofs.Ytakmlfbejbelaaa
open Go Go.Proofs Go.Proofs.PI
/-! ### the document: an item is read -/
structure BxI (z : List AV) (H : Heap) (p : Nat) (s : RS) (bx : List AV) (G : Heap) : Prop where
  len : H.length + 2 ≤ G.length
  hp : G[p]? = some ⟨[Enc.u8.lst s.l, .bool s.bad], 0, .full⟩
  hz : G[H.length]? = some ⟨z, 0, .full⟩
  hb : G[H.length + 1]? = some ⟨bx, 0, .full⟩
  ho : ∀ b, b < H.length → b ≠ p → G[b]? = H[b]?
theorem BxI.setp {z : List AV} {H : Heap} {p : Nat} {s : RS} {bx : List AV} {G G' : Heap} {s' : RS} (g : BxI z H p s bx G) (hp : p < H.length) (h : G' = List.set G p s'.blk) : BxI z H p s' bx G' := by
  subst h
  refine ⟨by rw [List.length_set]; exact g.len, get_set g.hp _, ?_, ?_, fun b hb hne => ?_⟩
  · rw [List.getElem?_set_ne (by omega)]; exact g.hz
  · rw [List.getElem?_set_ne (by omega)]; exact g.hb
  · rw [List.getElem?_set_ne (by omega)]; exact g.ho b hb hne
/-- As after a call that leaves more behind it: the memory begins so. -/
theorem BxI.setb {z : List AV} {H : Heap} {p : Nat} {s : RS} {bx : List AV} {G : Heap} (g : BxI z H p s bx G) (hp : p < H.length) (bx' : List AV) : BxI z H p s bx' (List.set G (H.length + 1) ⟨bx', 0, .full⟩) := by
  refine ⟨by rw [List.length_set]; exact g.len, ?_, ?_, get_set g.hb _, fun b hb hne => ?_⟩
  · rw [List.getElem?_set_ne (by omega)]; exact g.hp
  · rw [List.getElem?_set_ne (by omega)]; exact g.hz
  · rw [List.getElem?_set_ne (by omega)]; exact g.ho b hb hne
theorem BxI.fin {z : List AV} {H : Heap} {p : Nat} {s : RS} {bx : List AV} {G : Heap} (g : BxI z H p s bx G) (hp : p < H.length) (B : Blk) : Keep none (List.set H p s.blk) (List.set G H.length B) := by
  refine ⟨by rw [List.length_set, List.length_set]; have := g.len; omega, fun b hb _ => ?_⟩
  rw [List.length_set] at hb
  rw [List.getElem?_set_ne (by omega)]
  by_cases e : b = p
  · subst e
    rw [g.hp, List.getElem?_set_self hb]; rfl
  · rw [List.getElem?_set_ne (by omega)]; exact g.ho b hb e
theorem BxI.setk {z : List AV} {H : Heap} {p : Nat} {s : RS} {bx : List AV} {G G' : Heap} {s' : RS} (g : BxI z H p s bx G) (hp : p < H.length) (k : Keep none (List.set G p s'.blk) G') : BxI z H p s' bx G' := by
  have g2 := g.setp hp (s' := s') rfl
  have hl := k.len
  rw [List.length_set] at hl
  have := g.len
  exact ⟨by omega, k.get g2.hp (by simp), k.get g2.hz (by simp), k.get g2.hb (by simp), fun b hb hne => by rw [k.at_ b (by rw [List.length_set]; omega) (by simp)]; exact g2.ho b hb hne⟩
theorem ritem_spec (p : Nat) (s : RS) (hl : s.l.length ≤ 140737488355328) (H : Heap) (hb : H[p]? = some ⟨[Enc.u8.lst s.l, .bool s.bad], 0, .full⟩) :
    WC Try.prog 67 [.ptr p 0] H fun r H' =>
      r = .agg [.str (textS s).1, .str (textS (textS s).2).1, .int .u32 (numR 4294967295 (textS (textS s).2).2).1, .int .i64 (numR 1099511627776 (numR 4294967295 (textS (textS s).2).2).2).1, .int .u64 (numR 18446744073709551615 (numR 1099511627776 (numR 4294967295 (textS (textS s).2).2).2).2).1] ∧
      Keep none (List.set H p (numR 18446744073709551615 (numR 1099511627776 (numR 4294967295 (textS (textS s).2).2).2).2).2.blk) H' := by
  refine WC_of_K fun K hK => ?_
  obtain ⟨a0, s1, h1⟩ : ∃ x t, textS s = (x, t) := ⟨_, _, rfl⟩
  have l1 := (textS_len s).2
  rw [h1] at l1 hK
  simp only at l1 hK
  have hp : p < H.length := (List.getElem?_eq_some_iff.1 hb).1
  have b1 := Text_spec p s.l s.bad hl (H ++ [(⟨[.str [], .str [], .int .u32 0, .int .i64 0, .int .u64 0], 0, .full⟩ : Blk)]) (get_app hb _)
  rw [show (⟨s.l, s.bad⟩ : RS) = s from rfl, h1] at b1
  simp only [RS.blk] at b1
  refine WC_of_body hT Try.func67 rfl (by simp [Try.f67]) (by simp [Try.f67]) (wx_sound hT _ ?_)
  simp only [Try.f67]
  repeat' (first | simp only [go_sem, Nat.reduceLT, Nat.reduceEqDiff, Nat.reduceAdd, Nat.reduceMul, Nat.reduceSub, Nat.reduceLeDiff, Int.reduceToNat, Int.reduceNeg, Int.reduceLT, Int.reduceLE, Int.reduceEq, reduceCtorEq, Int.natCast_zero, Int.natCast_one, Int.cast_ofNat_Int, Bool.not_not, false_eq_decide, true_eq_decide, hread0, hreadk, read_cons0, read_consk, astore_h0, astore_hk, hget0, hgetk, hset0, hsetk, hlen, hcat, Nat.add_assoc, Nat.add_zero, Nat.zero_add, List.length_append, and_true, true_and, AV.flat, *, -hK, -b1, -h1, -l1] | refine WC.call (b1) ?_ | with_reducible refine IfB_dec (fun h => ?_) (fun h => ?_) | with_reducible refine Guard_dec (fun h => ?_) (fun h => ?_) | with_reducible refine Guard_ndec (fun h => ?_) (fun h => ?_) | with_reducible refine Guard_not (fun h => ?_) (fun h => ?_) | with_reducible refine IfB_ndec (fun h => ?_) (fun h => ?_) | with_reducible refine IfB_not (fun h => ?_) (fun h => ?_) | with_reducible refine Guard_split (fun h => ?_) (fun h => ?_) | with_reducible refine IfB_split (fun h => ?_) (fun h => ?_))
  clear b1
  simp only [List.length_set, List.length_append, List.length_cons, List.length_nil, Nat.zero_add]
  generalize hG : (List.set (H ++ [(⟨[.str [], .str [], .int .u32 0, .int .i64 0, .int .u64 0], 0, .full⟩ : Blk)]) p ⟨[Enc.u8.lst s1.l, .bool s1.bad], 0, .full⟩ ++ [(⟨[.str a0, .str [], .int .u32 0, .int .i64 0, .int .u64 0], 0, .full⟩ : Blk)] : Heap) = G
  have g1 : BxI [.str [], .str [], .int .u32 0, .int .i64 0, .int .u64 0] H p s1 [.str a0, .str [], .int .u32 0, .int .i64 0, .int .u64 0] G := by
    subst hG
    refine ⟨by simp, ?_, ?_, ?_, fun b hb hne => ?_⟩
    · rw [List.getElem?_append_left (by simp; omega), List.getElem?_set_self (by simp; omega)]
    · rw [List.getElem?_append_left (by simp), List.getElem?_set_ne (by omega)]; simp
    · rw [List.getElem?_append_right (by simp)]; simp
    · rw [List.getElem?_append_left (by simp; omega), List.getElem?_set_ne (by omega), List.getElem?_append_left hb]
  clear hG
  obtain ⟨b0, s2, es2⟩ : ∃ x s, textS s1 = (x, s) := ⟨_, _, rfl⟩
  have ls2 := (fun q => (textS_len q).2) s1
  rw [es2] at ls2
  simp only [es2] at hK
  have cs2 := Text_spec p s1.l s1.bad (by omega) _ g1.hp
  rw [show (⟨s1.l, s1.bad⟩ : RS) = s1 from rfl, es2] at cs2
  simp only [Int.cast_ofNat_Int] at cs2
  refine cs2.mono ?_
  clear cs2
  rintro r Gs2 ⟨rfl, hG⟩
  have g2 := g1.setp hp hG
  clear hG es2
  have hbs2 := g2.hb
  simp only at ls2
  repeat' (first | simp only [go_sem, Nat.reduceLT, Nat.reduceEqDiff, Nat.reduceAdd, Nat.reduceMul, Nat.reduceSub, Nat.reduceLeDiff, Int.reduceToNat, Int.reduceNeg, Int.reduceLT, Int.reduceLE, Int.reduceEq, reduceCtorEq, Int.natCast_zero, Int.natCast_one, Int.cast_ofNat_Int, Bool.not_not, false_eq_decide, true_eq_decide, hread0, hreadk, read_cons0, read_consk, astore_h0, astore_hk, hget0, hgetk, hset0, hsetk, hlen, hcat, Nat.add_assoc, Nat.add_zero, Nat.zero_add, List.length_append, and_true, true_and, AV.flat, hbs2, get_app hbs2, read_get hbs2, read_app hbs2, astore_get hbs2, astore_app hbs2, get_set hbs2, get_set_app hbs2, read_set hbs2, read_set_app hbs2, astore_set hbs2, astore_set_app hbs2, List.set_set, hget0s, hgetks, hread0s, hreadks, List.length_set, *, -hK, -h1, -l1] | with_reducible refine IfB_dec (fun h => ?_) (fun h => ?_) | with_reducible refine Guard_dec (fun h => ?_) (fun h => ?_) | with_reducible refine Guard_ndec (fun h => ?_) (fun h => ?_) | with_reducible refine Guard_not (fun h => ?_) (fun h => ?_) | with_reducible refine IfB_ndec (fun h => ?_) (fun h => ?_) | with_reducible refine IfB_not (fun h => ?_) (fun h => ?_) | with_reducible refine Guard_split (fun h => ?_) (fun h => ?_) | with_reducible refine IfB_split (fun h => ?_) (fun h => ?_))
  have g3 := g2.setb hp [.str a0, .str b0, .int .u32 0, .int .i64 0, .int .u64 0]
  clear hbs2
  have mf := numR_le 4294967295 s2
  obtain ⟨f0, s3, e3⟩ : ∃ x t, numR 4294967295 s2 = (x, t) := ⟨_, _, rfl⟩
  have ls3 := numR_len 4294967295 s2
  rw [e3] at ls3 mf
  simp only [e3] at hK ls3 mf
  have c3 := Number_spec p 4294967295 (by omega) s2.l s2.bad (by omega) _ g3.hp
  rw [show (⟨s2.l, s2.bad⟩ : RS) = s2 from rfl, e3] at c3
  simp only [Int.cast_ofNat_Int] at c3
  refine c3.mono ?_
  clear c3
  rintro r Gs3 ⟨rfl, hG⟩
  have g4 := g3.setp hp hG
  clear hG e3
  have hbs3 := g4.hb
  have w3 : IntKind.u32.wrap (f0 : Int) = f0 := by rw [IntKind.wrap_u32]; omega
  repeat' (first | simp only [go_sem, Nat.reduceLT, Nat.reduceEqDiff, Nat.reduceAdd, Nat.reduceMul, Nat.reduceSub, Nat.reduceLeDiff, Int.reduceToNat, Int.reduceNeg, Int.reduceLT, Int.reduceLE, Int.reduceEq, reduceCtorEq, Int.natCast_zero, Int.natCast_one, Int.cast_ofNat_Int, Bool.not_not, false_eq_decide, true_eq_decide, hread0, hreadk, read_cons0, read_consk, astore_h0, astore_hk, hget0, hgetk, hset0, hsetk, hlen, hcat, Nat.add_assoc, Nat.add_zero, Nat.zero_add, List.length_append, and_true, true_and, AV.flat, hbs3, get_app hbs3, read_get hbs3, read_app hbs3, astore_get hbs3, astore_app hbs3, get_set hbs3, get_set_app hbs3, read_set hbs3, read_set_app hbs3, astore_set hbs3, astore_set_app hbs3, List.set_set, hget0s, hgetks, hread0s, hreadks, List.length_set, *, -hK, -h1, -l1, -mf] | with_reducible refine IfB_dec (fun h => ?_) (fun h => ?_) | with_reducible refine Guard_dec (fun h => ?_) (fun h => ?_) | with_reducible refine Guard_ndec (fun h => ?_) (fun h => ?_) | with_reducible refine Guard_not (fun h => ?_) (fun h => ?_) | with_reducible refine IfB_ndec (fun h => ?_) (fun h => ?_) | with_reducible refine IfB_not (fun h => ?_) (fun h => ?_) | with_reducible refine Guard_split (fun h => ?_) (fun h => ?_) | with_reducible refine IfB_split (fun h => ?_) (fun h => ?_))
  have g5 := g4.setb hp [.str a0, .str b0, .int .u32 f0, .int .i64 0, .int .u64 0]
  clear hbs3
  have md := numR_le 1099511627776 s3
  obtain ⟨d0, s4, e4⟩ : ∃ x t, numR 1099511627776 s3 = (x, t) := ⟨_, _, rfl⟩
  have ls4 := numR_len 1099511627776 s3
  rw [e4] at ls4 md
  simp only [e4] at hK ls4 md
  have c4 := Number_spec p 1099511627776 (by omega) s3.l s3.bad (by omega) _ g5.hp
  rw [show (⟨s3.l, s3.bad⟩ : RS) = s3 from rfl, e4] at c4
  simp only [Int.cast_ofNat_Int] at c4
  refine c4.mono ?_
  clear c4
  rintro r Gs4 ⟨rfl, hG⟩
  have g6 := g5.setp hp hG
  clear hG e4
  have hbs4 := g6.hb
  have w4 : IntKind.i64.wrap (d0 : Int) = d0 := by rw [IntKind.wrap_i64]; omega
  repeat' (first | simp only [go_sem, Nat.reduceLT, Nat.reduceEqDiff, Nat.reduceAdd, Nat.reduceMul, Nat.reduceSub, Nat.reduceLeDiff, Int.reduceToNat, Int.reduceNeg, Int.reduceLT, Int.reduceLE, Int.reduceEq, reduceCtorEq, Int.natCast_zero, Int.natCast_one, Int.cast_ofNat_Int, Bool.not_not, false_eq_decide, true_eq_decide, hread0, hreadk, read_cons0, read_consk, astore_h0, astore_hk, hget0, hgetk, hset0, hsetk, hlen, hcat, Nat.add_assoc, Nat.add_zero, Nat.zero_add, List.length_append, and_true, true_and, AV.flat, hbs4, get_app hbs4, read_get hbs4, read_app hbs4, astore_get hbs4, astore_app hbs4, get_set hbs4, get_set_app hbs4, read_set hbs4, read_set_app hbs4, astore_set hbs4, astore_set_app hbs4, List.set_set, hget0s, hgetks, hread0s, hreadks, List.length_set, *, -hK, -h1, -l1, -mf, -md] | with_reducible refine IfB_dec (fun h => ?_) (fun h => ?_) | with_reducible refine Guard_dec (fun h => ?_) (fun h => ?_) | with_reducible refine Guard_ndec (fun h => ?_) (fun h => ?_) | with_reducible refine Guard_not (fun h => ?_) (fun h => ?_) | with_reducible refine IfB_ndec (fun h => ?_) (fun h => ?_) | with_reducible refine IfB_not (fun h => ?_) (fun h => ?_) | with_reducible refine Guard_split (fun h => ?_) (fun h => ?_) | with_reducible refine IfB_split (fun h => ?_) (fun h => ?_))
  have g7 := g6.setb hp [.str a0, .str b0, .int .u32 f0, .int .i64 d0, .int .u64 0]
  clear hbs4
  obtain ⟨u0, s5, es5⟩ : ∃ x s, numR 18446744073709551615 s4 = (x, s) := ⟨_, _, rfl⟩
  have ls5 := (numR_len 18446744073709551615) s4
  rw [es5] at ls5
  simp only [es5] at hK
  have cs5 := Number_spec p 18446744073709551615 (by omega) s4.l s4.bad (by omega) _ g7.hp
  rw [show (⟨s4.l, s4.bad⟩ : RS) = s4 from rfl, es5] at cs5
  simp only [Int.cast_ofNat_Int] at cs5
  refine cs5.mono ?_
  clear cs5
  rintro r Gs5 ⟨rfl, hG⟩
  have g8 := g7.setp hp hG
  clear hG es5
  have hbs5 := g8.hb
  simp only at ls5
  repeat' (first | simp only [go_sem, Nat.reduceLT, Nat.reduceEqDiff, Nat.reduceAdd, Nat.reduceMul, Nat.reduceSub, Nat.reduceLeDiff, Int.reduceToNat, Int.reduceNeg, Int.reduceLT, Int.reduceLE, Int.reduceEq, reduceCtorEq, Int.natCast_zero, Int.natCast_one, Int.cast_ofNat_Int, Bool.not_not, false_eq_decide, true_eq_decide, hread0, hreadk, read_cons0, read_consk, astore_h0, astore_hk, hget0, hgetk, hset0, hsetk, hlen, hcat, Nat.add_assoc, Nat.add_zero, Nat.zero_add, List.length_append, and_true, true_and, AV.flat, hbs5, get_app hbs5, read_get hbs5, read_app hbs5, astore_get hbs5, astore_app hbs5, get_set hbs5, get_set_app hbs5, read_set hbs5, read_set_app hbs5, astore_set hbs5, astore_set_app hbs5, List.set_set, hget0s, hgetks, hread0s, hreadks, List.length_set, *, -hK, -h1, -l1, -mf, -md] | with_reducible refine IfB_dec (fun h => ?_) (fun h => ?_) | with_reducible refine Guard_dec (fun h => ?_) (fun h => ?_) | with_reducible refine Guard_ndec (fun h => ?_) (fun h => ?_) | with_reducible refine Guard_not (fun h => ?_) (fun h => ?_) | with_reducible refine IfB_ndec (fun h => ?_) (fun h => ?_) | with_reducible refine IfB_not (fun h => ?_) (fun h => ?_) | with_reducible refine Guard_split (fun h => ?_) (fun h => ?_) | with_reducible refine IfB_split (fun h => ?_) (fun h => ?_))
  have g9 := g8.setb hp [.str a0, .str b0, .int .u32 f0, .int .i64 d0, .int .u64 u0]
  clear hbs5
  have hzz := g9.hz
  have hbb := g9.hb
  repeat' (first | simp only [go_sem, Nat.reduceLT, Nat.reduceEqDiff, Nat.reduceAdd, Nat.reduceMul, Nat.reduceSub, Nat.reduceLeDiff, Int.reduceToNat, Int.reduceNeg, Int.reduceLT, Int.reduceLE, Int.reduceEq, reduceCtorEq, Int.natCast_zero, Int.natCast_one, Int.cast_ofNat_Int, Bool.not_not, false_eq_decide, true_eq_decide, hread0, hreadk, read_cons0, read_consk, astore_h0, astore_hk, hget0, hgetk, hset0, hsetk, hlen, hcat, Nat.add_assoc, Nat.add_zero, Nat.zero_add, List.length_append, and_true, true_and, AV.flat, hzz, get_app hzz, read_get hzz, read_app hzz, astore_get hzz, astore_app hzz, get_set hzz, get_set_app hzz, read_set hzz, read_set_app hzz, astore_set hzz, astore_set_app hzz, List.set_set, hget0s, hgetks, hread0s, hreadks, List.length_set, hbb, get_app hbb, read_get hbb, read_app hbb, *, -hK, -h1, -l1, -mf, -md] | with_reducible refine IfB_dec (fun h => ?_) (fun h => ?_) | with_reducible refine Guard_dec (fun h => ?_) (fun h => ?_) | with_reducible refine Guard_ndec (fun h => ?_) (fun h => ?_) | with_reducible refine Guard_not (fun h => ?_) (fun h => ?_) | with_reducible refine IfB_ndec (fun h => ?_) (fun h => ?_) | with_reducible refine IfB_not (fun h => ?_) (fun h => ?_) | with_reducible refine Guard_split (fun h => ?_) (fun h => ?_) | with_reducible refine IfB_split (fun h => ?_) (fun h => ?_))
  exact hK _ _ ⟨rfl, g9.fin hp _⟩
open Go Go.Proofs Go.Proofs.PI
/-! ### the document: a change is read -/
theorem refChange_spec (p : Nat) (l : List UInt8) (bad : Bool) (hl : l.length ≤ 140737488355328) (H : Heap) (hb : H[p]? = some ⟨[Enc.u8.lst l, .bool bad], 0, .full⟩) :
    WC Try.prog 61 [.ptr p 0] H fun r H' => r = (changeR ⟨l, bad⟩).1.av ∧ Keep none (List.set H p (changeR ⟨l, bad⟩).2.blk) H' := by
  refine WC_of_K fun K hK => ?_
  obtain ⟨k0, s1, h1⟩ : ∃ x s, byteS ⟨l, bad⟩ = (x, s) := ⟨_, _, rfl⟩
  have l1 := byteS_len ⟨l, bad⟩
  rw [h1] at l1
  unfold changeR changeG at hK
  rw [h1] at hK
  simp only at hK l1
  have hp : p < H.length := (List.getElem?_eq_some_iff.1 hb).1
  have b1 := Byte_spec p l bad hl (H ++ [(⟨[.int .u8 0, .int .i64 0, .str [], .str [], .int .u32 0, .int .i64 0, .int .u64 0, .str [], .int .u8 0, .int .i64 0, .bool false], 0, .full⟩ : Blk)]) (get_app hb _)
  rw [h1] at b1
  simp only [RS.blk] at b1
  by_cases q3 : k0.toNat = 3
  · skip
    rw [q3] at hK b1
    simp only [Nat.reduceEqDiff, if_true, if_false, rd3, Int.cast_ofNat_Int] at hK b1
    clear q3
    refine WC_of_body hT Try.func61 rfl (by simp [Try.f61]) (by simp [Try.f61]) (wx_sound hT _ ?_)
    simp only [Try.f61]
    repeat' (first | simp only [go_sem, Nat.reduceLT, Nat.reduceEqDiff, Nat.reduceAdd, Nat.reduceMul, Nat.reduceSub, Nat.reduceLeDiff, Int.reduceToNat, Int.reduceNeg, Int.reduceLT, Int.reduceLE, Int.reduceEq, reduceCtorEq, Int.natCast_zero, Int.natCast_one, Int.cast_ofNat_Int, Bool.not_not, false_eq_decide, true_eq_decide, hread0, hreadk, read_cons0, read_consk, astore_h0, astore_hk, hget0, hgetk, hset0, hsetk, hlen, hcat, Nat.add_assoc, Nat.add_zero, Nat.zero_add, List.length_append, and_true, true_and, AV.flat, *, -hK, -b1, -h1, -l1] | refine WC.call (b1) ?_ | with_reducible refine IfB_dec (fun h => ?_) (fun h => ?_) | with_reducible refine Guard_dec (fun h => ?_) (fun h => ?_) | with_reducible refine Guard_ndec (fun h => ?_) (fun h => ?_) | with_reducible refine Guard_not (fun h => ?_) (fun h => ?_) | with_reducible refine IfB_ndec (fun h => ?_) (fun h => ?_) | with_reducible refine IfB_not (fun h => ?_) (fun h => ?_) | with_reducible refine Guard_split (fun h => ?_) (fun h => ?_) | with_reducible refine IfB_split (fun h => ?_) (fun h => ?_))
    clear b1
    simp only [List.length_set, List.length_append, List.length_cons, List.length_nil, Nat.zero_add]
    generalize hG : (List.set (H ++ [(⟨[.int .u8 0, .int .i64 0, .str [], .str [], .int .u32 0, .int .i64 0, .int .u64 0, .str [], .int .u8 0, .int .i64 0, .bool false], 0, .full⟩ : Blk)]) p ⟨[Enc.u8.lst s1.l, .bool s1.bad], 0, .full⟩ ++ [(⟨[.int .u8 3, .int .i64 0, .str [], .str [], .int .u32 0, .int .i64 0, .int .u64 0, .str [], .int .u8 0, .int .i64 0, .bool false], 0, .full⟩ : Blk)] : Heap) = G
    have g1 : BxI [.int .u8 0, .int .i64 0, .str [], .str [], .int .u32 0, .int .i64 0, .int .u64 0, .str [], .int .u8 0, .int .i64 0, .bool false] H p s1 [.int .u8 3, .int .i64 0, .str [], .str [], .int .u32 0, .int .i64 0, .int .u64 0, .str [], .int .u8 0, .int .i64 0, .bool false] G := by
      subst hG
      refine ⟨by simp, ?_, ?_, ?_, fun b hb hne => ?_⟩
      · rw [List.getElem?_append_left (by simp; omega), List.getElem?_set_self (by simp; omega)]
      · rw [List.getElem?_append_left (by simp), List.getElem?_set_ne (by omega)]; simp
      · rw [List.getElem?_append_right (by simp)]; simp
      · rw [List.getElem?_append_left (by simp; omega), List.getElem?_set_ne (by omega), List.getElem?_append_left hb]
    clear hG
    have ms2 := numR_le 4 s1
    obtain ⟨t0, s2, es2⟩ : ∃ x t, numR 4 s1 = (x, t) := ⟨_, _, rfl⟩
    have ls2 := numR_len 4 s1
    rw [es2] at ls2 ms2
    simp only [es2] at hK
    simp only at ms2 ls2
    have cs2 := Number_spec p 4 (by omega) s1.l s1.bad (by omega) _ g1.hp
    rw [show (⟨s1.l, s1.bad⟩ : RS) = s1 from rfl, es2] at cs2
    simp only [Int.cast_ofNat_Int] at cs2
    refine cs2.mono ?_
    clear cs2
    rintro r Gs2 ⟨rfl, hG⟩
    have g2 := g1.setp hp hG
    clear hG es2
    have hbs2 := g2.hb
    have ws2 : IntKind.i64.wrap (t0 : Int) = t0 := by rw [IntKind.wrap_i64]; omega
    repeat' (first | simp only [go_sem, Nat.reduceLT, Nat.reduceEqDiff, Nat.reduceAdd, Nat.reduceMul, Nat.reduceSub, Nat.reduceLeDiff, Int.reduceToNat, Int.reduceNeg, Int.reduceLT, Int.reduceLE, Int.reduceEq, reduceCtorEq, Int.natCast_zero, Int.natCast_one, Int.cast_ofNat_Int, Bool.not_not, false_eq_decide, true_eq_decide, hread0, hreadk, read_cons0, read_consk, astore_h0, astore_hk, hget0, hgetk, hset0, hsetk, hlen, hcat, Nat.add_assoc, Nat.add_zero, Nat.zero_add, List.length_append, and_true, true_and, AV.flat, hbs2, get_app hbs2, read_get hbs2, read_app hbs2, astore_get hbs2, astore_app hbs2, get_set hbs2, get_set_app hbs2, read_set hbs2, read_set_app hbs2, astore_set hbs2, astore_set_app hbs2, List.set_set, hget0s, hgetks, hread0s, hreadks, List.length_set, *, -hK, -h1, -l1, -ms2] | with_reducible refine IfB_dec (fun h => ?_) (fun h => ?_) | with_reducible refine Guard_dec (fun h => ?_) (fun h => ?_) | with_reducible refine Guard_ndec (fun h => ?_) (fun h => ?_) | with_reducible refine Guard_not (fun h => ?_) (fun h => ?_) | with_reducible refine IfB_ndec (fun h => ?_) (fun h => ?_) | with_reducible refine IfB_not (fun h => ?_) (fun h => ?_) | with_reducible refine Guard_split (fun h => ?_) (fun h => ?_) | with_reducible refine IfB_split (fun h => ?_) (fun h => ?_))
    clear hbs2
    have g3 := g2.setb hp [.int .u8 3, .int .i64 t0, .str [], .str [], .int .u32 0, .int .i64 0, .int .u64 0, .str [], .int .u8 0, .int .i64 0, .bool false]
    have hzz := g3.hz
    have hbb := g3.hb
    repeat' (first | simp only [go_sem, Nat.reduceLT, Nat.reduceEqDiff, Nat.reduceAdd, Nat.reduceMul, Nat.reduceSub, Nat.reduceLeDiff, Int.reduceToNat, Int.reduceNeg, Int.reduceLT, Int.reduceLE, Int.reduceEq, reduceCtorEq, Int.natCast_zero, Int.natCast_one, Int.cast_ofNat_Int, Bool.not_not, false_eq_decide, true_eq_decide, hread0, hreadk, read_cons0, read_consk, astore_h0, astore_hk, hget0, hgetk, hset0, hsetk, hlen, hcat, Nat.add_assoc, Nat.add_zero, Nat.zero_add, List.length_append, and_true, true_and, AV.flat, hzz, get_app hzz, read_get hzz, read_app hzz, astore_get hzz, astore_app hzz, get_set hzz, get_set_app hzz, read_set hzz, read_set_app hzz, astore_set hzz, astore_set_app hzz, List.set_set, hget0s, hgetks, hread0s, hreadks, List.length_set, hbb, get_app hbb, read_get hbb, read_app hbb, *, -hK, -h1, -l1] | with_reducible refine IfB_dec (fun h => ?_) (fun h => ?_) | with_reducible refine Guard_dec (fun h => ?_) (fun h => ?_) | with_reducible refine Guard_ndec (fun h => ?_) (fun h => ?_) | with_reducible refine Guard_not (fun h => ?_) (fun h => ?_) | with_reducible refine IfB_ndec (fun h => ?_) (fun h => ?_) | with_reducible refine IfB_not (fun h => ?_) (fun h => ?_) | with_reducible refine Guard_split (fun h => ?_) (fun h => ?_) | with_reducible refine IfB_split (fun h => ?_) (fun h => ?_))
    exact hK _ _ ⟨rfl, g3.fin hp _⟩
  by_cases q4 : k0.toNat = 4
  · skip
    rw [q4] at hK b1
    simp only [Nat.reduceEqDiff, if_true, if_false, rdTo, Int.cast_ofNat_Int] at hK b1
    clear q4
    refine WC_of_body hT Try.func61 rfl (by simp [Try.f61]) (by simp [Try.f61]) (wx_sound hT _ ?_)
    simp only [Try.f61]
    repeat' (first | simp only [go_sem, Nat.reduceLT, Nat.reduceEqDiff, Nat.reduceAdd, Nat.reduceMul, Nat.reduceSub, Nat.reduceLeDiff, Int.reduceToNat, Int.reduceNeg, Int.reduceLT, Int.reduceLE, Int.reduceEq, reduceCtorEq, Int.natCast_zero, Int.natCast_one, Int.cast_ofNat_Int, Bool.not_not, false_eq_decide, true_eq_decide, hread0, hreadk, read_cons0, read_consk, astore_h0, astore_hk, hget0, hgetk, hset0, hsetk, hlen, hcat, Nat.add_assoc, Nat.add_zero, Nat.zero_add, List.length_append, and_true, true_and, AV.flat, *, -hK, -b1, -h1, -l1] | refine WC.call (b1) ?_ | with_reducible refine IfB_dec (fun h => ?_) (fun h => ?_) | with_reducible refine Guard_dec (fun h => ?_) (fun h => ?_) | with_reducible refine Guard_ndec (fun h => ?_) (fun h => ?_) | with_reducible refine Guard_not (fun h => ?_) (fun h => ?_) | with_reducible refine IfB_ndec (fun h => ?_) (fun h => ?_) | with_reducible refine IfB_not (fun h => ?_) (fun h => ?_) | with_reducible refine Guard_split (fun h => ?_) (fun h => ?_) | with_reducible refine IfB_split (fun h => ?_) (fun h => ?_))
    clear b1
    simp only [List.length_set, List.length_append, List.length_cons, List.length_nil, Nat.zero_add]
    generalize hG : (List.set (H ++ [(⟨[.int .u8 0, .int .i64 0, .str [], .str [], .int .u32 0, .int .i64 0, .int .u64 0, .str [], .int .u8 0, .int .i64 0, .bool false], 0, .full⟩ : Blk)]) p ⟨[Enc.u8.lst s1.l, .bool s1.bad], 0, .full⟩ ++ [(⟨[.int .u8 4, .int .i64 0, .str [], .str [], .int .u32 0, .int .i64 0, .int .u64 0, .str [], .int .u8 0, .int .i64 0, .bool false], 0, .full⟩ : Blk)] : Heap) = G
    have g1 : BxI [.int .u8 0, .int .i64 0, .str [], .str [], .int .u32 0, .int .i64 0, .int .u64 0, .str [], .int .u8 0, .int .i64 0, .bool false] H p s1 [.int .u8 4, .int .i64 0, .str [], .str [], .int .u32 0, .int .i64 0, .int .u64 0, .str [], .int .u8 0, .int .i64 0, .bool false] G := by
      subst hG
      refine ⟨by simp, ?_, ?_, ?_, fun b hb hne => ?_⟩
      · rw [List.getElem?_append_left (by simp; omega), List.getElem?_set_self (by simp; omega)]
      · rw [List.getElem?_append_left (by simp), List.getElem?_set_ne (by omega)]; simp
      · rw [List.getElem?_append_right (by simp)]; simp
      · rw [List.getElem?_append_left (by simp; omega), List.getElem?_set_ne (by omega), List.getElem?_append_left hb]
    clear hG
    have ms2 := numR_le 1099511627776 s1
    obtain ⟨t0, s2, es2⟩ : ∃ x t, numR 1099511627776 s1 = (x, t) := ⟨_, _, rfl⟩
    have ls2 := numR_len 1099511627776 s1
    rw [es2] at ls2 ms2
    simp only [es2] at hK
    simp only at ms2 ls2
    have cs2 := Number_spec p 1099511627776 (by omega) s1.l s1.bad (by omega) _ g1.hp
    rw [show (⟨s1.l, s1.bad⟩ : RS) = s1 from rfl, es2] at cs2
    simp only [Int.cast_ofNat_Int] at cs2
    refine cs2.mono ?_
    clear cs2
    rintro r Gs2 ⟨rfl, hG⟩
    have g2 := g1.setp hp hG
    clear hG es2
    have hbs2 := g2.hb
    have ws2 : IntKind.i64.wrap (t0 : Int) = t0 := by rw [IntKind.wrap_i64]; omega
    repeat' (first | simp only [go_sem, Nat.reduceLT, Nat.reduceEqDiff, Nat.reduceAdd, Nat.reduceMul, Nat.reduceSub, Nat.reduceLeDiff, Int.reduceToNat, Int.reduceNeg, Int.reduceLT, Int.reduceLE, Int.reduceEq, reduceCtorEq, Int.natCast_zero, Int.natCast_one, Int.cast_ofNat_Int, Bool.not_not, false_eq_decide, true_eq_decide, hread0, hreadk, read_cons0, read_consk, astore_h0, astore_hk, hget0, hgetk, hset0, hsetk, hlen, hcat, Nat.add_assoc, Nat.add_zero, Nat.zero_add, List.length_append, and_true, true_and, AV.flat, hbs2, get_app hbs2, read_get hbs2, read_app hbs2, astore_get hbs2, astore_app hbs2, get_set hbs2, get_set_app hbs2, read_set hbs2, read_set_app hbs2, astore_set hbs2, astore_set_app hbs2, List.set_set, hget0s, hgetks, hread0s, hreadks, List.length_set, *, -hK, -h1, -l1, -ms2] | with_reducible refine IfB_dec (fun h => ?_) (fun h => ?_) | with_reducible refine Guard_dec (fun h => ?_) (fun h => ?_) | with_reducible refine Guard_ndec (fun h => ?_) (fun h => ?_) | with_reducible refine Guard_not (fun h => ?_) (fun h => ?_) | with_reducible refine IfB_ndec (fun h => ?_) (fun h => ?_) | with_reducible refine IfB_not (fun h => ?_) (fun h => ?_) | with_reducible refine Guard_split (fun h => ?_) (fun h => ?_) | with_reducible refine IfB_split (fun h => ?_) (fun h => ?_))
    clear hbs2
    have g3 := g2.setb hp [.int .u8 4, .int .i64 0, .str [], .str [], .int .u32 0, .int .i64 0, .int .u64 0, .str [], .int .u8 0, .int .i64 t0, .bool false]
    have hzz := g3.hz
    have hbb := g3.hb
    repeat' (first | simp only [go_sem, Nat.reduceLT, Nat.reduceEqDiff, Nat.reduceAdd, Nat.reduceMul, Nat.reduceSub, Nat.reduceLeDiff, Int.reduceToNat, Int.reduceNeg, Int.reduceLT, Int.reduceLE, Int.reduceEq, reduceCtorEq, Int.natCast_zero, Int.natCast_one, Int.cast_ofNat_Int, Bool.not_not, false_eq_decide, true_eq_decide, hread0, hreadk, read_cons0, read_consk, astore_h0, astore_hk, hget0, hgetk, hset0, hsetk, hlen, hcat, Nat.add_assoc, Nat.add_zero, Nat.zero_add, List.length_append, and_true, true_and, AV.flat, hzz, get_app hzz, read_get hzz, read_app hzz, astore_get hzz, astore_app hzz, get_set hzz, get_set_app hzz, read_set hzz, read_set_app hzz, astore_set hzz, astore_set_app hzz, List.set_set, hget0s, hgetks, hread0s, hreadks, List.length_set, hbb, get_app hbb, read_get hbb, read_app hbb, *, -hK, -h1, -l1] | with_reducible refine IfB_dec (fun h => ?_) (fun h => ?_) | with_reducible refine Guard_dec (fun h => ?_) (fun h => ?_) | with_reducible refine Guard_ndec (fun h => ?_) (fun h => ?_) | with_reducible refine Guard_not (fun h => ?_) (fun h => ?_) | with_reducible refine IfB_ndec (fun h => ?_) (fun h => ?_) | with_reducible refine IfB_not (fun h => ?_) (fun h => ?_) | with_reducible refine Guard_split (fun h => ?_) (fun h => ?_) | with_reducible refine IfB_split (fun h => ?_) (fun h => ?_))
    exact hK _ _ ⟨rfl, g3.fin hp _⟩
  by_cases q7 : k0.toNat = 7
  · skip
    rw [q7] at hK b1
    simp only [Nat.reduceEqDiff, if_true, if_false, rdTo, Int.cast_ofNat_Int] at hK b1
    clear q7
    refine WC_of_body hT Try.func61 rfl (by simp [Try.f61]) (by simp [Try.f61]) (wx_sound hT _ ?_)
    simp only [Try.f61]
    repeat' (first | simp only [go_sem, Nat.reduceLT, Nat.reduceEqDiff, Nat.reduceAdd, Nat.reduceMul, Nat.reduceSub, Nat.reduceLeDiff, Int.reduceToNat, Int.reduceNeg, Int.reduceLT, Int.reduceLE, Int.reduceEq, reduceCtorEq, Int.natCast_zero, Int.natCast_one, Int.cast_ofNat_Int, Bool.not_not, false_eq_decide, true_eq_decide, hread0, hreadk, read_cons0, read_consk, astore_h0, astore_hk, hget0, hgetk, hset0, hsetk, hlen, hcat, Nat.add_assoc, Nat.add_zero, Nat.zero_add, List.length_append, and_true, true_and, AV.flat, *, -hK, -b1, -h1, -l1] | refine WC.call (b1) ?_ | with_reducible refine IfB_dec (fun h => ?_) (fun h => ?_) | with_reducible refine Guard_dec (fun h => ?_) (fun h => ?_) | with_reducible refine Guard_ndec (fun h => ?_) (fun h => ?_) | with_reducible refine Guard_not (fun h => ?_) (fun h => ?_) | with_reducible refine IfB_ndec (fun h => ?_) (fun h => ?_) | with_reducible refine IfB_not (fun h => ?_) (fun h => ?_) | with_reducible refine Guard_split (fun h => ?_) (fun h => ?_) | with_reducible refine IfB_split (fun h => ?_) (fun h => ?_))
    clear b1
    simp only [List.length_set, List.length_append, List.length_cons, List.length_nil, Nat.zero_add]
    generalize hG : (List.set (H ++ [(⟨[.int .u8 0, .int .i64 0, .str [], .str [], .int .u32 0, .int .i64 0, .int .u64 0, .str [], .int .u8 0, .int .i64 0, .bool false], 0, .full⟩ : Blk)]) p ⟨[Enc.u8.lst s1.l, .bool s1.bad], 0, .full⟩ ++ [(⟨[.int .u8 7, .int .i64 0, .str [], .str [], .int .u32 0, .int .i64 0, .int .u64 0, .str [], .int .u8 0, .int .i64 0, .bool false], 0, .full⟩ : Blk)] : Heap) = G
    have g1 : BxI [.int .u8 0, .int .i64 0, .str [], .str [], .int .u32 0, .int .i64 0, .int .u64 0, .str [], .int .u8 0, .int .i64 0, .bool false] H p s1 [.int .u8 7, .int .i64 0, .str [], .str [], .int .u32 0, .int .i64 0, .int .u64 0, .str [], .int .u8 0, .int .i64 0, .bool false] G := by
      subst hG
      refine ⟨by simp, ?_, ?_, ?_, fun b hb hne => ?_⟩
      · rw [List.getElem?_append_left (by simp; omega), List.getElem?_set_self (by simp; omega)]
      · rw [List.getElem?_append_left (by simp), List.getElem?_set_ne (by omega)]; simp
      · rw [List.getElem?_append_right (by simp)]; simp
      · rw [List.getElem?_append_left (by simp; omega), List.getElem?_set_ne (by omega), List.getElem?_append_left hb]
    clear hG
    have ms2 := numR_le 2147483647 s1
    obtain ⟨t0, s2, es2⟩ : ∃ x t, numR 2147483647 s1 = (x, t) := ⟨_, _, rfl⟩
    have ls2 := numR_len 2147483647 s1
    rw [es2] at ls2 ms2
    simp only [es2] at hK
    simp only at ms2 ls2
    have cs2 := Number_spec p 2147483647 (by omega) s1.l s1.bad (by omega) _ g1.hp
    rw [show (⟨s1.l, s1.bad⟩ : RS) = s1 from rfl, es2] at cs2
    simp only [Int.cast_ofNat_Int] at cs2
    refine cs2.mono ?_
    clear cs2
    rintro r Gs2 ⟨rfl, hG⟩
    have g2 := g1.setp hp hG
    clear hG es2
    have hbs2 := g2.hb
    have ws2 : IntKind.i64.wrap (t0 : Int) = t0 := by rw [IntKind.wrap_i64]; omega
    repeat' (first | simp only [go_sem, Nat.reduceLT, Nat.reduceEqDiff, Nat.reduceAdd, Nat.reduceMul, Nat.reduceSub, Nat.reduceLeDiff, Int.reduceToNat, Int.reduceNeg, Int.reduceLT, Int.reduceLE, Int.reduceEq, reduceCtorEq, Int.natCast_zero, Int.natCast_one, Int.cast_ofNat_Int, Bool.not_not, false_eq_decide, true_eq_decide, hread0, hreadk, read_cons0, read_consk, astore_h0, astore_hk, hget0, hgetk, hset0, hsetk, hlen, hcat, Nat.add_assoc, Nat.add_zero, Nat.zero_add, List.length_append, and_true, true_and, AV.flat, hbs2, get_app hbs2, read_get hbs2, read_app hbs2, astore_get hbs2, astore_app hbs2, get_set hbs2, get_set_app hbs2, read_set hbs2, read_set_app hbs2, astore_set hbs2, astore_set_app hbs2, List.set_set, hget0s, hgetks, hread0s, hreadks, List.length_set, *, -hK, -h1, -l1, -ms2] | with_reducible refine IfB_dec (fun h => ?_) (fun h => ?_) | with_reducible refine Guard_dec (fun h => ?_) (fun h => ?_) | with_reducible refine Guard_ndec (fun h => ?_) (fun h => ?_) | with_reducible refine Guard_not (fun h => ?_) (fun h => ?_) | with_reducible refine IfB_ndec (fun h => ?_) (fun h => ?_) | with_reducible refine IfB_not (fun h => ?_) (fun h => ?_) | with_reducible refine Guard_split (fun h => ?_) (fun h => ?_) | with_reducible refine IfB_split (fun h => ?_) (fun h => ?_))
    clear hbs2
    have g3 := g2.setb hp [.int .u8 7, .int .i64 0, .str [], .str [], .int .u32 0, .int .i64 0, .int .u64 0, .str [], .int .u8 0, .int .i64 t0, .bool false]
    have hzz := g3.hz
    have hbb := g3.hb
    repeat' (first | simp only [go_sem, Nat.reduceLT, Nat.reduceEqDiff, Nat.reduceAdd, Nat.reduceMul, Nat.reduceSub, Nat.reduceLeDiff, Int.reduceToNat, Int.reduceNeg, Int.reduceLT, Int.reduceLE, Int.reduceEq, reduceCtorEq, Int.natCast_zero, Int.natCast_one, Int.cast_ofNat_Int, Bool.not_not, false_eq_decide, true_eq_decide, hread0, hreadk, read_cons0, read_consk, astore_h0, astore_hk, hget0, hgetk, hset0, hsetk, hlen, hcat, Nat.add_assoc, Nat.add_zero, Nat.zero_add, List.length_append, and_true, true_and, AV.flat, hzz, get_app hzz, read_get hzz, read_app hzz, astore_get hzz, astore_app hzz, get_set hzz, get_set_app hzz, read_set hzz, read_set_app hzz, astore_set hzz, astore_set_app hzz, List.set_set, hget0s, hgetks, hread0s, hreadks, List.length_set, hbb, get_app hbb, read_get hbb, read_app hbb, *, -hK, -h1, -l1] | with_reducible refine IfB_dec (fun h => ?_) (fun h => ?_) | with_reducible refine Guard_dec (fun h => ?_) (fun h => ?_) | with_reducible refine Guard_ndec (fun h => ?_) (fun h => ?_) | with_reducible refine Guard_not (fun h => ?_) (fun h => ?_) | with_reducible refine IfB_ndec (fun h => ?_) (fun h => ?_) | with_reducible refine IfB_not (fun h => ?_) (fun h => ?_) | with_reducible refine Guard_split (fun h => ?_) (fun h => ?_) | with_reducible refine IfB_split (fun h => ?_) (fun h => ?_))
    exact hK _ _ ⟨rfl, g3.fin hp _⟩
  by_cases q5 : k0.toNat = 5
  · skip
    rw [q5] at hK b1
    simp only [Nat.reduceEqDiff, if_true, if_false, rd5, Int.cast_ofNat_Int] at hK b1
    clear q5
    refine WC_of_body hT Try.func61 rfl (by simp [Try.f61]) (by simp [Try.f61]) (wx_sound hT _ ?_)
    simp only [Try.f61]
    repeat' (first | simp only [go_sem, Nat.reduceLT, Nat.reduceEqDiff, Nat.reduceAdd, Nat.reduceMul, Nat.reduceSub, Nat.reduceLeDiff, Int.reduceToNat, Int.reduceNeg, Int.reduceLT, Int.reduceLE, Int.reduceEq, reduceCtorEq, Int.natCast_zero, Int.natCast_one, Int.cast_ofNat_Int, Bool.not_not, false_eq_decide, true_eq_decide, hread0, hreadk, read_cons0, read_consk, astore_h0, astore_hk, hget0, hgetk, hset0, hsetk, hlen, hcat, Nat.add_assoc, Nat.add_zero, Nat.zero_add, List.length_append, and_true, true_and, AV.flat, *, -hK, -b1, -h1, -l1] | refine WC.call (b1) ?_ | with_reducible refine IfB_dec (fun h => ?_) (fun h => ?_) | with_reducible refine Guard_dec (fun h => ?_) (fun h => ?_) | with_reducible refine Guard_ndec (fun h => ?_) (fun h => ?_) | with_reducible refine Guard_not (fun h => ?_) (fun h => ?_) | with_reducible refine IfB_ndec (fun h => ?_) (fun h => ?_) | with_reducible refine IfB_not (fun h => ?_) (fun h => ?_) | with_reducible refine Guard_split (fun h => ?_) (fun h => ?_) | with_reducible refine IfB_split (fun h => ?_) (fun h => ?_))
    clear b1
    simp only [List.length_set, List.length_append, List.length_cons, List.length_nil, Nat.zero_add]
    generalize hG : (List.set (H ++ [(⟨[.int .u8 0, .int .i64 0, .str [], .str [], .int .u32 0, .int .i64 0, .int .u64 0, .str [], .int .u8 0, .int .i64 0, .bool false], 0, .full⟩ : Blk)]) p ⟨[Enc.u8.lst s1.l, .bool s1.bad], 0, .full⟩ ++ [(⟨[.int .u8 5, .int .i64 0, .str [], .str [], .int .u32 0, .int .i64 0, .int .u64 0, .str [], .int .u8 0, .int .i64 0, .bool false], 0, .full⟩ : Blk)] : Heap) = G
    have g1 : BxI [.int .u8 0, .int .i64 0, .str [], .str [], .int .u32 0, .int .i64 0, .int .u64 0, .str [], .int .u8 0, .int .i64 0, .bool false] H p s1 [.int .u8 5, .int .i64 0, .str [], .str [], .int .u32 0, .int .i64 0, .int .u64 0, .str [], .int .u8 0, .int .i64 0, .bool false] G := by
      subst hG
      refine ⟨by simp, ?_, ?_, ?_, fun b hb hne => ?_⟩
      · rw [List.getElem?_append_left (by simp; omega), List.getElem?_set_self (by simp; omega)]
      · rw [List.getElem?_append_left (by simp), List.getElem?_set_ne (by omega)]; simp
      · rw [List.getElem?_append_right (by simp)]; simp
      · rw [List.getElem?_append_left (by simp; omega), List.getElem?_set_ne (by omega), List.getElem?_append_left hb]
    clear hG
    have ms2 := numR_le 4 s1
    obtain ⟨t0, s2, es2⟩ : ∃ x t, numR 4 s1 = (x, t) := ⟨_, _, rfl⟩
    have ls2 := numR_len 4 s1
    rw [es2] at ls2 ms2
    simp only [es2] at hK
    simp only at ms2 ls2
    have cs2 := Number_spec p 4 (by omega) s1.l s1.bad (by omega) _ g1.hp
    rw [show (⟨s1.l, s1.bad⟩ : RS) = s1 from rfl, es2] at cs2
    simp only [Int.cast_ofNat_Int] at cs2
    refine cs2.mono ?_
    clear cs2
    rintro r Gs2 ⟨rfl, hG⟩
    have g2 := g1.setp hp hG
    clear hG es2
    have hbs2 := g2.hb
    have ws2 : IntKind.i64.wrap (t0 : Int) = t0 := by rw [IntKind.wrap_i64]; omega
    repeat' (first | simp only [go_sem, Nat.reduceLT, Nat.reduceEqDiff, Nat.reduceAdd, Nat.reduceMul, Nat.reduceSub, Nat.reduceLeDiff, Int.reduceToNat, Int.reduceNeg, Int.reduceLT, Int.reduceLE, Int.reduceEq, reduceCtorEq, Int.natCast_zero, Int.natCast_one, Int.cast_ofNat_Int, Bool.not_not, false_eq_decide, true_eq_decide, hread0, hreadk, read_cons0, read_consk, astore_h0, astore_hk, hget0, hgetk, hset0, hsetk, hlen, hcat, Nat.add_assoc, Nat.add_zero, Nat.zero_add, List.length_append, and_true, true_and, AV.flat, hbs2, get_app hbs2, read_get hbs2, read_app hbs2, astore_get hbs2, astore_app hbs2, get_set hbs2, get_set_app hbs2, read_set hbs2, read_set_app hbs2, astore_set hbs2, astore_set_app hbs2, List.set_set, hget0s, hgetks, hread0s, hreadks, List.length_set, *, -hK, -h1, -l1, -ms2] | with_reducible refine IfB_dec (fun h => ?_) (fun h => ?_) | with_reducible refine Guard_dec (fun h => ?_) (fun h => ?_) | with_reducible refine Guard_ndec (fun h => ?_) (fun h => ?_) | with_reducible refine Guard_not (fun h => ?_) (fun h => ?_) | with_reducible refine IfB_ndec (fun h => ?_) (fun h => ?_) | with_reducible refine IfB_not (fun h => ?_) (fun h => ?_) | with_reducible refine Guard_split (fun h => ?_) (fun h => ?_) | with_reducible refine IfB_split (fun h => ?_) (fun h => ?_))
    clear hbs2
    have g3 := g2.setb hp [.int .u8 5, .int .i64 t0, .str [], .str [], .int .u32 0, .int .i64 0, .int .u64 0, .str [], .int .u8 0, .int .i64 0, .bool false]
    have ms3 := numR_le 16 s2
    obtain ⟨t1, s3, es3⟩ : ∃ x t, numR 16 s2 = (x, t) := ⟨_, _, rfl⟩
    have ls3 := numR_len 16 s2
    rw [es3] at ls3 ms3
    simp only [es3] at hK
    simp only at ms3 ls3
    have cs3 := Number_spec p 16 (by omega) s2.l s2.bad (by omega) _ g3.hp
    rw [show (⟨s2.l, s2.bad⟩ : RS) = s2 from rfl, es3] at cs3
    simp only [Int.cast_ofNat_Int] at cs3
    refine cs3.mono ?_
    clear cs3
    rintro r Gs3 ⟨rfl, hG⟩
    have g4 := g3.setp hp hG
    clear hG es3
    have hbs3 := g4.hb
    have ws3 : IntKind.i64.wrap (t1 : Int) = t1 := by rw [IntKind.wrap_i64]; omega
    repeat' (first | simp only [go_sem, Nat.reduceLT, Nat.reduceEqDiff, Nat.reduceAdd, Nat.reduceMul, Nat.reduceSub, Nat.reduceLeDiff, Int.reduceToNat, Int.reduceNeg, Int.reduceLT, Int.reduceLE, Int.reduceEq, reduceCtorEq, Int.natCast_zero, Int.natCast_one, Int.cast_ofNat_Int, Bool.not_not, false_eq_decide, true_eq_decide, hread0, hreadk, read_cons0, read_consk, astore_h0, astore_hk, hget0, hgetk, hset0, hsetk, hlen, hcat, Nat.add_assoc, Nat.add_zero, Nat.zero_add, List.length_append, and_true, true_and, AV.flat, hbs3, get_app hbs3, read_get hbs3, read_app hbs3, astore_get hbs3, astore_app hbs3, get_set hbs3, get_set_app hbs3, read_set hbs3, read_set_app hbs3, astore_set hbs3, astore_set_app hbs3, List.set_set, hget0s, hgetks, hread0s, hreadks, List.length_set, *, -hK, -h1, -l1, -ms3] | with_reducible refine IfB_dec (fun h => ?_) (fun h => ?_) | with_reducible refine Guard_dec (fun h => ?_) (fun h => ?_) | with_reducible refine Guard_ndec (fun h => ?_) (fun h => ?_) | with_reducible refine Guard_not (fun h => ?_) (fun h => ?_) | with_reducible refine IfB_ndec (fun h => ?_) (fun h => ?_) | with_reducible refine IfB_not (fun h => ?_) (fun h => ?_) | with_reducible refine Guard_split (fun h => ?_) (fun h => ?_) | with_reducible refine IfB_split (fun h => ?_) (fun h => ?_))
    clear hbs3
    have g5 := g4.setb hp [.int .u8 5, .int .i64 t0, .str [], .str [], .int .u32 0, .int .i64 0, .int .u64 0, .str [], .int .u8 0, .int .i64 t1, .bool false]
    have hzz := g5.hz
    have hbb := g5.hb
    repeat' (first | simp only [go_sem, Nat.reduceLT, Nat.reduceEqDiff, Nat.reduceAdd, Nat.reduceMul, Nat.reduceSub, Nat.reduceLeDiff, Int.reduceToNat, Int.reduceNeg, Int.reduceLT, Int.reduceLE, Int.reduceEq, reduceCtorEq, Int.natCast_zero, Int.natCast_one, Int.cast_ofNat_Int, Bool.not_not, false_eq_decide, true_eq_decide, hread0, hreadk, read_cons0, read_consk, astore_h0, astore_hk, hget0, hgetk, hset0, hsetk, hlen, hcat, Nat.add_assoc, Nat.add_zero, Nat.zero_add, List.length_append, and_true, true_and, AV.flat, hzz, get_app hzz, read_get hzz, read_app hzz, astore_get hzz, astore_app hzz, get_set hzz, get_set_app hzz, read_set hzz, read_set_app hzz, astore_set hzz, astore_set_app hzz, List.set_set, hget0s, hgetks, hread0s, hreadks, List.length_set, hbb, get_app hbb, read_get hbb, read_app hbb, *, -hK, -h1, -l1] | with_reducible refine IfB_dec (fun h => ?_) (fun h => ?_) | with_reducible refine Guard_dec (fun h => ?_) (fun h => ?_) | with_reducible refine Guard_ndec (fun h => ?_) (fun h => ?_) | with_reducible refine Guard_not (fun h => ?_) (fun h => ?_) | with_reducible refine IfB_ndec (fun h => ?_) (fun h => ?_) | with_reducible refine IfB_not (fun h => ?_) (fun h => ?_) | with_reducible refine Guard_split (fun h => ?_) (fun h => ?_) | with_reducible refine IfB_split (fun h => ?_) (fun h => ?_))
    exact hK _ _ ⟨rfl, g5.fin hp _⟩
  by_cases q6 : k0.toNat = 6
  · skip
    rw [q6] at hK b1
    simp only [Nat.reduceEqDiff, if_true, if_false, rd6, Int.cast_ofNat_Int] at hK b1
    clear q6
    refine WC_of_body hT Try.func61 rfl (by simp [Try.f61]) (by simp [Try.f61]) (wx_sound hT _ ?_)
    simp only [Try.f61]
    repeat' (first | simp only [go_sem, Nat.reduceLT, Nat.reduceEqDiff, Nat.reduceAdd, Nat.reduceMul, Nat.reduceSub, Nat.reduceLeDiff, Int.reduceToNat, Int.reduceNeg, Int.reduceLT, Int.reduceLE, Int.reduceEq, reduceCtorEq, Int.natCast_zero, Int.natCast_one, Int.cast_ofNat_Int, Bool.not_not, false_eq_decide, true_eq_decide, hread0, hreadk, read_cons0, read_consk, astore_h0, astore_hk, hget0, hgetk, hset0, hsetk, hlen, hcat, Nat.add_assoc, Nat.add_zero, Nat.zero_add, List.length_append, and_true, true_and, AV.flat, *, -hK, -b1, -h1, -l1] | refine WC.call (b1) ?_ | with_reducible refine IfB_dec (fun h => ?_) (fun h => ?_) | with_reducible refine Guard_dec (fun h => ?_) (fun h => ?_) | with_reducible refine Guard_ndec (fun h => ?_) (fun h => ?_) | with_reducible refine Guard_not (fun h => ?_) (fun h => ?_) | with_reducible refine IfB_ndec (fun h => ?_) (fun h => ?_) | with_reducible refine IfB_not (fun h => ?_) (fun h => ?_) | with_reducible refine Guard_split (fun h => ?_) (fun h => ?_) | with_reducible refine IfB_split (fun h => ?_) (fun h => ?_))
    clear b1
    simp only [List.length_set, List.length_append, List.length_cons, List.length_nil, Nat.zero_add]
    generalize hG : (List.set (H ++ [(⟨[.int .u8 0, .int .i64 0, .str [], .str [], .int .u32 0, .int .i64 0, .int .u64 0, .str [], .int .u8 0, .int .i64 0, .bool false], 0, .full⟩ : Blk)]) p ⟨[Enc.u8.lst s1.l, .bool s1.bad], 0, .full⟩ ++ [(⟨[.int .u8 6, .int .i64 0, .str [], .str [], .int .u32 0, .int .i64 0, .int .u64 0, .str [], .int .u8 0, .int .i64 0, .bool false], 0, .full⟩ : Blk)] : Heap) = G
    have g1 : BxI [.int .u8 0, .int .i64 0, .str [], .str [], .int .u32 0, .int .i64 0, .int .u64 0, .str [], .int .u8 0, .int .i64 0, .bool false] H p s1 [.int .u8 6, .int .i64 0, .str [], .str [], .int .u32 0, .int .i64 0, .int .u64 0, .str [], .int .u8 0, .int .i64 0, .bool false] G := by
      subst hG
      refine ⟨by simp, ?_, ?_, ?_, fun b hb hne => ?_⟩
      · rw [List.getElem?_append_left (by simp; omega), List.getElem?_set_self (by simp; omega)]
      · rw [List.getElem?_append_left (by simp), List.getElem?_set_ne (by omega)]; simp
      · rw [List.getElem?_append_right (by simp)]; simp
      · rw [List.getElem?_append_left (by simp; omega), List.getElem?_set_ne (by omega), List.getElem?_append_left hb]
    clear hG
    have ms2 := numR_le 2147483647 s1
    obtain ⟨t0, s2, es2⟩ : ∃ x t, numR 2147483647 s1 = (x, t) := ⟨_, _, rfl⟩
    have ls2 := numR_len 2147483647 s1
    rw [es2] at ls2 ms2
    simp only [es2] at hK
    simp only at ms2 ls2
    have cs2 := Number_spec p 2147483647 (by omega) s1.l s1.bad (by omega) _ g1.hp
    rw [show (⟨s1.l, s1.bad⟩ : RS) = s1 from rfl, es2] at cs2
    simp only [Int.cast_ofNat_Int] at cs2
    refine cs2.mono ?_
    clear cs2
    rintro r Gs2 ⟨rfl, hG⟩
    have g2 := g1.setp hp hG
    clear hG es2
    have hbs2 := g2.hb
    have ws2 : IntKind.i64.wrap (t0 : Int) = t0 := by rw [IntKind.wrap_i64]; omega
    repeat' (first | simp only [go_sem, Nat.reduceLT, Nat.reduceEqDiff, Nat.reduceAdd, Nat.reduceMul, Nat.reduceSub, Nat.reduceLeDiff, Int.reduceToNat, Int.reduceNeg, Int.reduceLT, Int.reduceLE, Int.reduceEq, reduceCtorEq, Int.natCast_zero, Int.natCast_one, Int.cast_ofNat_Int, Bool.not_not, false_eq_decide, true_eq_decide, hread0, hreadk, read_cons0, read_consk, astore_h0, astore_hk, hget0, hgetk, hset0, hsetk, hlen, hcat, Nat.add_assoc, Nat.add_zero, Nat.zero_add, List.length_append, and_true, true_and, AV.flat, hbs2, get_app hbs2, read_get hbs2, read_app hbs2, astore_get hbs2, astore_app hbs2, get_set hbs2, get_set_app hbs2, read_set hbs2, read_set_app hbs2, astore_set hbs2, astore_set_app hbs2, List.set_set, hget0s, hgetks, hread0s, hreadks, List.length_set, *, -hK, -h1, -l1, -ms2] | with_reducible refine IfB_dec (fun h => ?_) (fun h => ?_) | with_reducible refine Guard_dec (fun h => ?_) (fun h => ?_) | with_reducible refine Guard_ndec (fun h => ?_) (fun h => ?_) | with_reducible refine Guard_not (fun h => ?_) (fun h => ?_) | with_reducible refine IfB_ndec (fun h => ?_) (fun h => ?_) | with_reducible refine IfB_not (fun h => ?_) (fun h => ?_) | with_reducible refine Guard_split (fun h => ?_) (fun h => ?_) | with_reducible refine IfB_split (fun h => ?_) (fun h => ?_))
    clear hbs2
    have g3 := g2.setb hp [.int .u8 6, .int .i64 0, .str [], .str [], .int .u32 0, .int .i64 0, .int .u64 0, .str [], .int .u8 0, .int .i64 t0, .bool false]
    obtain ⟨x0, s3, es3⟩ : ∃ x s, byteS s2 = (x, s) := ⟨_, _, rfl⟩
    have ls3 := (byteS_len) s2
    rw [es3] at ls3
    simp only [es3] at hK
    have cs3 := Byte_spec p s2.l s2.bad (by omega) _ g3.hp
    rw [show (⟨s2.l, s2.bad⟩ : RS) = s2 from rfl, es3] at cs3
    simp only [Int.cast_ofNat_Int] at cs3
    refine cs3.mono ?_
    clear cs3
    rintro r Gs3 ⟨rfl, hG⟩
    have g4 := g3.setp hp hG
    clear hG es3
    have hbs3 := g4.hb
    simp only at ls3
    by_cases hx : x0.toNat = 1
    · have ix : (x0.toNat : Int) = 1 := by omega
      simp only [decide_eq_true hx] at hK
      clear hx
      repeat' (first | simp only [go_sem, Nat.reduceLT, Nat.reduceEqDiff, Nat.reduceAdd, Nat.reduceMul, Nat.reduceSub, Nat.reduceLeDiff, Int.reduceToNat, Int.reduceNeg, Int.reduceLT, Int.reduceLE, Int.reduceEq, reduceCtorEq, Int.natCast_zero, Int.natCast_one, Int.cast_ofNat_Int, Bool.not_not, false_eq_decide, true_eq_decide, hread0, hreadk, read_cons0, read_consk, astore_h0, astore_hk, hget0, hgetk, hset0, hsetk, hlen, hcat, Nat.add_assoc, Nat.add_zero, Nat.zero_add, List.length_append, and_true, true_and, AV.flat, hbs3, get_app hbs3, read_get hbs3, read_app hbs3, astore_get hbs3, astore_app hbs3, get_set hbs3, get_set_app hbs3, read_set hbs3, read_set_app hbs3, astore_set hbs3, astore_set_app hbs3, List.set_set, hget0s, hgetks, hread0s, hreadks, List.length_set, *, -hK, -h1, -l1] | with_reducible refine IfB_dec (fun h => ?_) (fun h => ?_) | with_reducible refine Guard_dec (fun h => ?_) (fun h => ?_) | with_reducible refine Guard_ndec (fun h => ?_) (fun h => ?_) | with_reducible refine Guard_not (fun h => ?_) (fun h => ?_) | with_reducible refine IfB_ndec (fun h => ?_) (fun h => ?_) | with_reducible refine IfB_not (fun h => ?_) (fun h => ?_) | with_reducible refine Guard_split (fun h => ?_) (fun h => ?_) | with_reducible refine IfB_split (fun h => ?_) (fun h => ?_))
      have g5 := g4.setb hp [.int .u8 6, .int .i64 0, .str [], .str [], .int .u32 0, .int .i64 0, .int .u64 0, .str [], .int .u8 0, .int .i64 t0, .bool true]
      clear hbs3
      have hzz := g5.hz
      have hbb := g5.hb
      repeat' (first | simp only [go_sem, Nat.reduceLT, Nat.reduceEqDiff, Nat.reduceAdd, Nat.reduceMul, Nat.reduceSub, Nat.reduceLeDiff, Int.reduceToNat, Int.reduceNeg, Int.reduceLT, Int.reduceLE, Int.reduceEq, reduceCtorEq, Int.natCast_zero, Int.natCast_one, Int.cast_ofNat_Int, Bool.not_not, false_eq_decide, true_eq_decide, hread0, hreadk, read_cons0, read_consk, astore_h0, astore_hk, hget0, hgetk, hset0, hsetk, hlen, hcat, Nat.add_assoc, Nat.add_zero, Nat.zero_add, List.length_append, and_true, true_and, AV.flat, hzz, get_app hzz, read_get hzz, read_app hzz, astore_get hzz, astore_app hzz, get_set hzz, get_set_app hzz, read_set hzz, read_set_app hzz, astore_set hzz, astore_set_app hzz, List.set_set, hget0s, hgetks, hread0s, hreadks, List.length_set, hbb, get_app hbb, read_get hbb, read_app hbb, *, -hK, -h1, -l1] | with_reducible refine IfB_dec (fun h => ?_) (fun h => ?_) | with_reducible refine Guard_dec (fun h => ?_) (fun h => ?_) | with_reducible refine Guard_ndec (fun h => ?_) (fun h => ?_) | with_reducible refine Guard_not (fun h => ?_) (fun h => ?_) | with_reducible refine IfB_ndec (fun h => ?_) (fun h => ?_) | with_reducible refine IfB_not (fun h => ?_) (fun h => ?_) | with_reducible refine Guard_split (fun h => ?_) (fun h => ?_) | with_reducible refine IfB_split (fun h => ?_) (fun h => ?_))
      exact hK _ _ ⟨rfl, g5.fin hp _⟩
    · have ix : ¬ (x0.toNat : Int) = 1 := by omega
      simp only [decide_eq_false hx] at hK
      clear hx
      repeat' (first | simp only [go_sem, Nat.reduceLT, Nat.reduceEqDiff, Nat.reduceAdd, Nat.reduceMul, Nat.reduceSub, Nat.reduceLeDiff, Int.reduceToNat, Int.reduceNeg, Int.reduceLT, Int.reduceLE, Int.reduceEq, reduceCtorEq, Int.natCast_zero, Int.natCast_one, Int.cast_ofNat_Int, Bool.not_not, false_eq_decide, true_eq_decide, hread0, hreadk, read_cons0, read_consk, astore_h0, astore_hk, hget0, hgetk, hset0, hsetk, hlen, hcat, Nat.add_assoc, Nat.add_zero, Nat.zero_add, List.length_append, and_true, true_and, AV.flat, hbs3, get_app hbs3, read_get hbs3, read_app hbs3, astore_get hbs3, astore_app hbs3, get_set hbs3, get_set_app hbs3, read_set hbs3, read_set_app hbs3, astore_set hbs3, astore_set_app hbs3, List.set_set, hget0s, hgetks, hread0s, hreadks, List.length_set, *, -hK, -h1, -l1] | with_reducible refine IfB_dec (fun h => ?_) (fun h => ?_) | with_reducible refine Guard_dec (fun h => ?_) (fun h => ?_) | with_reducible refine Guard_ndec (fun h => ?_) (fun h => ?_) | with_reducible refine Guard_not (fun h => ?_) (fun h => ?_) | with_reducible refine IfB_ndec (fun h => ?_) (fun h => ?_) | with_reducible refine IfB_not (fun h => ?_) (fun h => ?_) | with_reducible refine Guard_split (fun h => ?_) (fun h => ?_) | with_reducible refine IfB_split (fun h => ?_) (fun h => ?_))
      have g5 := g4.setb hp [.int .u8 6, .int .i64 0, .str [], .str [], .int .u32 0, .int .i64 0, .int .u64 0, .str [], .int .u8 0, .int .i64 t0, .bool false]
      clear hbs3
      have hzz := g5.hz
      have hbb := g5.hb
      repeat' (first | simp only [go_sem, Nat.reduceLT, Nat.reduceEqDiff, Nat.reduceAdd, Nat.reduceMul, Nat.reduceSub, Nat.reduceLeDiff, Int.reduceToNat, Int.reduceNeg, Int.reduceLT, Int.reduceLE, Int.reduceEq, reduceCtorEq, Int.natCast_zero, Int.natCast_one, Int.cast_ofNat_Int, Bool.not_not, false_eq_decide, true_eq_decide, hread0, hreadk, read_cons0, read_consk, astore_h0, astore_hk, hget0, hgetk, hset0, hsetk, hlen, hcat, Nat.add_assoc, Nat.add_zero, Nat.zero_add, List.length_append, and_true, true_and, AV.flat, hzz, get_app hzz, read_get hzz, read_app hzz, astore_get hzz, astore_app hzz, get_set hzz, get_set_app hzz, read_set hzz, read_set_app hzz, astore_set hzz, astore_set_app hzz, List.set_set, hget0s, hgetks, hread0s, hreadks, List.length_set, hbb, get_app hbb, read_get hbb, read_app hbb, *, -hK, -h1, -l1] | with_reducible refine IfB_dec (fun h => ?_) (fun h => ?_) | with_reducible refine Guard_dec (fun h => ?_) (fun h => ?_) | with_reducible refine Guard_ndec (fun h => ?_) (fun h => ?_) | with_reducible refine Guard_not (fun h => ?_) (fun h => ?_) | with_reducible refine IfB_ndec (fun h => ?_) (fun h => ?_) | with_reducible refine IfB_not (fun h => ?_) (fun h => ?_) | with_reducible refine Guard_split (fun h => ?_) (fun h => ?_) | with_reducible refine IfB_split (fun h => ?_) (fun h => ?_))
      exact hK _ _ ⟨rfl, g5.fin hp _⟩
  by_cases q2 : k0.toNat = 2
  · skip
    rw [q2] at hK b1
    simp only [Nat.reduceEqDiff, if_true, if_false, rd2, Int.cast_ofNat_Int] at hK b1
    clear q2
    refine WC_of_body hT Try.func61 rfl (by simp [Try.f61]) (by simp [Try.f61]) (wx_sound hT _ ?_)
    simp only [Try.f61]
    repeat' (first | simp only [go_sem, Nat.reduceLT, Nat.reduceEqDiff, Nat.reduceAdd, Nat.reduceMul, Nat.reduceSub, Nat.reduceLeDiff, Int.reduceToNat, Int.reduceNeg, Int.reduceLT, Int.reduceLE, Int.reduceEq, reduceCtorEq, Int.natCast_zero, Int.natCast_one, Int.cast_ofNat_Int, Bool.not_not, false_eq_decide, true_eq_decide, hread0, hreadk, read_cons0, read_consk, astore_h0, astore_hk, hget0, hgetk, hset0, hsetk, hlen, hcat, Nat.add_assoc, Nat.add_zero, Nat.zero_add, List.length_append, and_true, true_and, AV.flat, *, -hK, -b1, -h1, -l1] | refine WC.call (b1) ?_ | with_reducible refine IfB_dec (fun h => ?_) (fun h => ?_) | with_reducible refine Guard_dec (fun h => ?_) (fun h => ?_) | with_reducible refine Guard_ndec (fun h => ?_) (fun h => ?_) | with_reducible refine Guard_not (fun h => ?_) (fun h => ?_) | with_reducible refine IfB_ndec (fun h => ?_) (fun h => ?_) | with_reducible refine IfB_not (fun h => ?_) (fun h => ?_) | with_reducible refine Guard_split (fun h => ?_) (fun h => ?_) | with_reducible refine IfB_split (fun h => ?_) (fun h => ?_))
    clear b1
    simp only [List.length_set, List.length_append, List.length_cons, List.length_nil, Nat.zero_add]
    generalize hG : (List.set (H ++ [(⟨[.int .u8 0, .int .i64 0, .str [], .str [], .int .u32 0, .int .i64 0, .int .u64 0, .str [], .int .u8 0, .int .i64 0, .bool false], 0, .full⟩ : Blk)]) p ⟨[Enc.u8.lst s1.l, .bool s1.bad], 0, .full⟩ ++ [(⟨[.int .u8 2, .int .i64 0, .str [], .str [], .int .u32 0, .int .i64 0, .int .u64 0, .str [], .int .u8 0, .int .i64 0, .bool false], 0, .full⟩ : Blk)] : Heap) = G
    have g1 : BxI [.int .u8 0, .int .i64 0, .str [], .str [], .int .u32 0, .int .i64 0, .int .u64 0, .str [], .int .u8 0, .int .i64 0, .bool false] H p s1 [.int .u8 2, .int .i64 0, .str [], .str [], .int .u32 0, .int .i64 0, .int .u64 0, .str [], .int .u8 0, .int .i64 0, .bool false] G := by
      subst hG
      refine ⟨by simp, ?_, ?_, ?_, fun b hb hne => ?_⟩
      · rw [List.getElem?_append_left (by simp; omega), List.getElem?_set_self (by simp; omega)]
      · rw [List.getElem?_append_left (by simp), List.getElem?_set_ne (by omega)]; simp
      · rw [List.getElem?_append_right (by simp)]; simp
      · rw [List.getElem?_append_left (by simp; omega), List.getElem?_set_ne (by omega), List.getElem?_append_left hb]
    clear hG
    have ms2 := numR_le 4 s1
    obtain ⟨t0, s2, es2⟩ : ∃ x t, numR 4 s1 = (x, t) := ⟨_, _, rfl⟩
    have ls2 := numR_len 4 s1
    rw [es2] at ls2 ms2
    simp only [es2] at hK
    simp only at ms2 ls2
    have cs2 := Number_spec p 4 (by omega) s1.l s1.bad (by omega) _ g1.hp
    rw [show (⟨s1.l, s1.bad⟩ : RS) = s1 from rfl, es2] at cs2
    simp only [Int.cast_ofNat_Int] at cs2
    refine cs2.mono ?_
    clear cs2
    rintro r Gs2 ⟨rfl, hG⟩
    have g2 := g1.setp hp hG
    clear hG es2
    have hbs2 := g2.hb
    have ws2 : IntKind.i64.wrap (t0 : Int) = t0 := by rw [IntKind.wrap_i64]; omega
    repeat' (first | simp only [go_sem, Nat.reduceLT, Nat.reduceEqDiff, Nat.reduceAdd, Nat.reduceMul, Nat.reduceSub, Nat.reduceLeDiff, Int.reduceToNat, Int.reduceNeg, Int.reduceLT, Int.reduceLE, Int.reduceEq, reduceCtorEq, Int.natCast_zero, Int.natCast_one, Int.cast_ofNat_Int, Bool.not_not, false_eq_decide, true_eq_decide, hread0, hreadk, read_cons0, read_consk, astore_h0, astore_hk, hget0, hgetk, hset0, hsetk, hlen, hcat, Nat.add_assoc, Nat.add_zero, Nat.zero_add, List.length_append, and_true, true_and, AV.flat, hbs2, get_app hbs2, read_get hbs2, read_app hbs2, astore_get hbs2, astore_app hbs2, get_set hbs2, get_set_app hbs2, read_set hbs2, read_set_app hbs2, astore_set hbs2, astore_set_app hbs2, List.set_set, hget0s, hgetks, hread0s, hreadks, List.length_set, *, -hK, -h1, -l1, -ms2] | with_reducible refine IfB_dec (fun h => ?_) (fun h => ?_) | with_reducible refine Guard_dec (fun h => ?_) (fun h => ?_) | with_reducible refine Guard_ndec (fun h => ?_) (fun h => ?_) | with_reducible refine Guard_not (fun h => ?_) (fun h => ?_) | with_reducible refine IfB_ndec (fun h => ?_) (fun h => ?_) | with_reducible refine IfB_not (fun h => ?_) (fun h => ?_) | with_reducible refine Guard_split (fun h => ?_) (fun h => ?_) | with_reducible refine IfB_split (fun h => ?_) (fun h => ?_))
    clear hbs2
    have g3 := g2.setb hp [.int .u8 2, .int .i64 t0, .str [], .str [], .int .u32 0, .int .i64 0, .int .u64 0, .str [], .int .u8 0, .int .i64 0, .bool false]
    obtain ⟨a0, s3, es3⟩ : ∃ x s, textS s2 = (x, s) := ⟨_, _, rfl⟩
    have ls3 := (fun q => (textS_len q).2) s2
    rw [es3] at ls3
    simp only [es3] at hK
    have cs3 := Text_spec p s2.l s2.bad (by omega) _ g3.hp
    rw [show (⟨s2.l, s2.bad⟩ : RS) = s2 from rfl, es3] at cs3
    simp only [Int.cast_ofNat_Int] at cs3
    refine cs3.mono ?_
    clear cs3
    rintro r Gs3 ⟨rfl, hG⟩
    have g4 := g3.setp hp hG
    clear hG es3
    have hbs3 := g4.hb
    simp only at ls3
    repeat' (first | simp only [go_sem, Nat.reduceLT, Nat.reduceEqDiff, Nat.reduceAdd, Nat.reduceMul, Nat.reduceSub, Nat.reduceLeDiff, Int.reduceToNat, Int.reduceNeg, Int.reduceLT, Int.reduceLE, Int.reduceEq, reduceCtorEq, Int.natCast_zero, Int.natCast_one, Int.cast_ofNat_Int, Bool.not_not, false_eq_decide, true_eq_decide, hread0, hreadk, read_cons0, read_consk, astore_h0, astore_hk, hget0, hgetk, hset0, hsetk, hlen, hcat, Nat.add_assoc, Nat.add_zero, Nat.zero_add, List.length_append, and_true, true_and, AV.flat, hbs3, get_app hbs3, read_get hbs3, read_app hbs3, astore_get hbs3, astore_app hbs3, get_set hbs3, get_set_app hbs3, read_set hbs3, read_set_app hbs3, astore_set hbs3, astore_set_app hbs3, List.set_set, hget0s, hgetks, hread0s, hreadks, List.length_set, *, -hK, -h1, -l1] | with_reducible refine IfB_dec (fun h => ?_) (fun h => ?_) | with_reducible refine Guard_dec (fun h => ?_) (fun h => ?_) | with_reducible refine Guard_ndec (fun h => ?_) (fun h => ?_) | with_reducible refine Guard_not (fun h => ?_) (fun h => ?_) | with_reducible refine IfB_ndec (fun h => ?_) (fun h => ?_) | with_reducible refine IfB_not (fun h => ?_) (fun h => ?_) | with_reducible refine Guard_split (fun h => ?_) (fun h => ?_) | with_reducible refine IfB_split (fun h => ?_) (fun h => ?_))
    have g5 := g4.setb hp [.int .u8 2, .int .i64 t0, .str [], .str [], .int .u32 0, .int .i64 0, .int .u64 0, .str a0, .int .u8 0, .int .i64 0, .bool false]
    clear hbs3
    obtain ⟨x0, s4, es4⟩ : ∃ x s, byteS s3 = (x, s) := ⟨_, _, rfl⟩
    have ls4 := (byteS_len) s3
    rw [es4] at ls4
    simp only [es4] at hK
    have cs4 := Byte_spec p s3.l s3.bad (by omega) _ g5.hp
    rw [show (⟨s3.l, s3.bad⟩ : RS) = s3 from rfl, es4] at cs4
    simp only [Int.cast_ofNat_Int] at cs4
    refine cs4.mono ?_
    clear cs4
    rintro r Gs4 ⟨rfl, hG⟩
    have g6 := g5.setp hp hG
    clear hG es4
    have hbs4 := g6.hb
    simp only at ls4
    repeat' (first | simp only [go_sem, Nat.reduceLT, Nat.reduceEqDiff, Nat.reduceAdd, Nat.reduceMul, Nat.reduceSub, Nat.reduceLeDiff, Int.reduceToNat, Int.reduceNeg, Int.reduceLT, Int.reduceLE, Int.reduceEq, reduceCtorEq, Int.natCast_zero, Int.natCast_one, Int.cast_ofNat_Int, Bool.not_not, false_eq_decide, true_eq_decide, hread0, hreadk, read_cons0, read_consk, astore_h0, astore_hk, hget0, hgetk, hset0, hsetk, hlen, hcat, Nat.add_assoc, Nat.add_zero, Nat.zero_add, List.length_append, and_true, true_and, AV.flat, hbs4, get_app hbs4, read_get hbs4, read_app hbs4, astore_get hbs4, astore_app hbs4, get_set hbs4, get_set_app hbs4, read_set hbs4, read_set_app hbs4, astore_set hbs4, astore_set_app hbs4, List.set_set, hget0s, hgetks, hread0s, hreadks, List.length_set, *, -hK, -h1, -l1] | with_reducible refine IfB_dec (fun h => ?_) (fun h => ?_) | with_reducible refine Guard_dec (fun h => ?_) (fun h => ?_) | with_reducible refine Guard_ndec (fun h => ?_) (fun h => ?_) | with_reducible refine Guard_not (fun h => ?_) (fun h => ?_) | with_reducible refine IfB_ndec (fun h => ?_) (fun h => ?_) | with_reducible refine IfB_not (fun h => ?_) (fun h => ?_) | with_reducible refine Guard_split (fun h => ?_) (fun h => ?_) | with_reducible refine IfB_split (fun h => ?_) (fun h => ?_))
    have g7 := g6.setb hp [.int .u8 2, .int .i64 t0, .str [], .str [], .int .u32 0, .int .i64 0, .int .u64 0, .str a0, .int .u8 x0.toNat, .int .i64 0, .bool false]
    clear hbs4
    have hzz := g7.hz
    have hbb := g7.hb
    repeat' (first | simp only [go_sem, Nat.reduceLT, Nat.reduceEqDiff, Nat.reduceAdd, Nat.reduceMul, Nat.reduceSub, Nat.reduceLeDiff, Int.reduceToNat, Int.reduceNeg, Int.reduceLT, Int.reduceLE, Int.reduceEq, reduceCtorEq, Int.natCast_zero, Int.natCast_one, Int.cast_ofNat_Int, Bool.not_not, false_eq_decide, true_eq_decide, hread0, hreadk, read_cons0, read_consk, astore_h0, astore_hk, hget0, hgetk, hset0, hsetk, hlen, hcat, Nat.add_assoc, Nat.add_zero, Nat.zero_add, List.length_append, and_true, true_and, AV.flat, hzz, get_app hzz, read_get hzz, read_app hzz, astore_get hzz, astore_app hzz, get_set hzz, get_set_app hzz, read_set hzz, read_set_app hzz, astore_set hzz, astore_set_app hzz, List.set_set, hget0s, hgetks, hread0s, hreadks, List.length_set, hbb, get_app hbb, read_get hbb, read_app hbb, *, -hK, -h1, -l1] | with_reducible refine IfB_dec (fun h => ?_) (fun h => ?_) | with_reducible refine Guard_dec (fun h => ?_) (fun h => ?_) | with_reducible refine Guard_ndec (fun h => ?_) (fun h => ?_) | with_reducible refine Guard_not (fun h => ?_) (fun h => ?_) | with_reducible refine IfB_ndec (fun h => ?_) (fun h => ?_) | with_reducible refine IfB_not (fun h => ?_) (fun h => ?_) | with_reducible refine Guard_split (fun h => ?_) (fun h => ?_) | with_reducible refine IfB_split (fun h => ?_) (fun h => ?_))
    exact hK _ _ ⟨rfl, g7.fin hp _⟩
  by_cases q1 : k0.toNat = 1
  · skip
    rw [q1] at hK b1
    simp only [Nat.reduceEqDiff, if_true, if_false, rd1, Int.cast_ofNat_Int] at hK b1
    clear q1
    refine WC_of_body hT Try.func61 rfl (by simp [Try.f61]) (by simp [Try.f61]) (wx_sound hT _ ?_)
    simp only [Try.f61]
    repeat' (first | simp only [go_sem, Nat.reduceLT, Nat.reduceEqDiff, Nat.reduceAdd, Nat.reduceMul, Nat.reduceSub, Nat.reduceLeDiff, Int.reduceToNat, Int.reduceNeg, Int.reduceLT, Int.reduceLE, Int.reduceEq, reduceCtorEq, Int.natCast_zero, Int.natCast_one, Int.cast_ofNat_Int, Bool.not_not, false_eq_decide, true_eq_decide, hread0, hreadk, read_cons0, read_consk, astore_h0, astore_hk, hget0, hgetk, hset0, hsetk, hlen, hcat, Nat.add_assoc, Nat.add_zero, Nat.zero_add, List.length_append, and_true, true_and, AV.flat, *, -hK, -b1, -h1, -l1] | refine WC.call (b1) ?_ | with_reducible refine IfB_dec (fun h => ?_) (fun h => ?_) | with_reducible refine Guard_dec (fun h => ?_) (fun h => ?_) | with_reducible refine Guard_ndec (fun h => ?_) (fun h => ?_) | with_reducible refine Guard_not (fun h => ?_) (fun h => ?_) | with_reducible refine IfB_ndec (fun h => ?_) (fun h => ?_) | with_reducible refine IfB_not (fun h => ?_) (fun h => ?_) | with_reducible refine Guard_split (fun h => ?_) (fun h => ?_) | with_reducible refine IfB_split (fun h => ?_) (fun h => ?_))
    clear b1
    simp only [List.length_set, List.length_append, List.length_cons, List.length_nil, Nat.zero_add]
    generalize hG : (List.set (H ++ [(⟨[.int .u8 0, .int .i64 0, .str [], .str [], .int .u32 0, .int .i64 0, .int .u64 0, .str [], .int .u8 0, .int .i64 0, .bool false], 0, .full⟩ : Blk)]) p ⟨[Enc.u8.lst s1.l, .bool s1.bad], 0, .full⟩ ++ [(⟨[.int .u8 1, .int .i64 0, .str [], .str [], .int .u32 0, .int .i64 0, .int .u64 0, .str [], .int .u8 0, .int .i64 0, .bool false], 0, .full⟩ : Blk)] : Heap) = G
    have g1 : BxI [.int .u8 0, .int .i64 0, .str [], .str [], .int .u32 0, .int .i64 0, .int .u64 0, .str [], .int .u8 0, .int .i64 0, .bool false] H p s1 [.int .u8 1, .int .i64 0, .str [], .str [], .int .u32 0, .int .i64 0, .int .u64 0, .str [], .int .u8 0, .int .i64 0, .bool false] G := by
      subst hG
      refine ⟨by simp, ?_, ?_, ?_, fun b hb hne => ?_⟩
      · rw [List.getElem?_append_left (by simp; omega), List.getElem?_set_self (by simp; omega)]
      · rw [List.getElem?_append_left (by simp), List.getElem?_set_ne (by omega)]; simp
      · rw [List.getElem?_append_right (by simp)]; simp
      · rw [List.getElem?_append_left (by simp; omega), List.getElem?_set_ne (by omega), List.getElem?_append_left hb]
    clear hG
    have ms2 := numR_le 4 s1
    obtain ⟨t0, s2, es2⟩ : ∃ x t, numR 4 s1 = (x, t) := ⟨_, _, rfl⟩
    have ls2 := numR_len 4 s1
    rw [es2] at ls2 ms2
    simp only [es2] at hK
    simp only at ms2 ls2
    have cs2 := Number_spec p 4 (by omega) s1.l s1.bad (by omega) _ g1.hp
    rw [show (⟨s1.l, s1.bad⟩ : RS) = s1 from rfl, es2] at cs2
    simp only [Int.cast_ofNat_Int] at cs2
    refine cs2.mono ?_
    clear cs2
    rintro r Gs2 ⟨rfl, hG⟩
    have g2 := g1.setp hp hG
    clear hG es2
    have hbs2 := g2.hb
    have ws2 : IntKind.i64.wrap (t0 : Int) = t0 := by rw [IntKind.wrap_i64]; omega
    repeat' (first | simp only [go_sem, Nat.reduceLT, Nat.reduceEqDiff, Nat.reduceAdd, Nat.reduceMul, Nat.reduceSub, Nat.reduceLeDiff, Int.reduceToNat, Int.reduceNeg, Int.reduceLT, Int.reduceLE, Int.reduceEq, reduceCtorEq, Int.natCast_zero, Int.natCast_one, Int.cast_ofNat_Int, Bool.not_not, false_eq_decide, true_eq_decide, hread0, hreadk, read_cons0, read_consk, astore_h0, astore_hk, hget0, hgetk, hset0, hsetk, hlen, hcat, Nat.add_assoc, Nat.add_zero, Nat.zero_add, List.length_append, and_true, true_and, AV.flat, hbs2, get_app hbs2, read_get hbs2, read_app hbs2, astore_get hbs2, astore_app hbs2, get_set hbs2, get_set_app hbs2, read_set hbs2, read_set_app hbs2, astore_set hbs2, astore_set_app hbs2, List.set_set, hget0s, hgetks, hread0s, hreadks, List.length_set, *, -hK, -h1, -l1, -ms2] | with_reducible refine IfB_dec (fun h => ?_) (fun h => ?_) | with_reducible refine Guard_dec (fun h => ?_) (fun h => ?_) | with_reducible refine Guard_ndec (fun h => ?_) (fun h => ?_) | with_reducible refine Guard_not (fun h => ?_) (fun h => ?_) | with_reducible refine IfB_ndec (fun h => ?_) (fun h => ?_) | with_reducible refine IfB_not (fun h => ?_) (fun h => ?_) | with_reducible refine Guard_split (fun h => ?_) (fun h => ?_) | with_reducible refine IfB_split (fun h => ?_) (fun h => ?_))
    clear hbs2
    have g3 := g2.setb hp [.int .u8 1, .int .i64 t0, .str [], .str [], .int .u32 0, .int .i64 0, .int .u64 0, .str [], .int .u8 0, .int .i64 0, .bool false]
    have cs := ritem_spec p s2 (by omega) _ g3.hp
    generalize (textS s2) = e1 at *
    obtain ⟨a0, s3⟩ := e1
    simp only at cs hK
    generalize (textS s3) = e2 at *
    obtain ⟨b0, s4⟩ := e2
    simp only at cs hK
    generalize (numR 4294967295 s4) = e3 at *
    obtain ⟨f0, s5⟩ := e3
    simp only at cs hK
    generalize (numR 1099511627776 s5) = e4 at *
    obtain ⟨d0, s6⟩ := e4
    simp only at cs hK
    generalize (numR 18446744073709551615 s6) = e5 at *
    obtain ⟨u0, s7⟩ := e5
    simp only at cs hK
    refine cs.mono ?_
    clear cs
    rintro r G7 ⟨rfl, kG⟩
    have g4 := g3.setk hp kG
    clear kG
    have hb7 := g4.hb
    repeat' (first | simp only [go_sem, Nat.reduceLT, Nat.reduceEqDiff, Nat.reduceAdd, Nat.reduceMul, Nat.reduceSub, Nat.reduceLeDiff, Int.reduceToNat, Int.reduceNeg, Int.reduceLT, Int.reduceLE, Int.reduceEq, reduceCtorEq, Int.natCast_zero, Int.natCast_one, Int.cast_ofNat_Int, Bool.not_not, false_eq_decide, true_eq_decide, hread0, hreadk, read_cons0, read_consk, astore_h0, astore_hk, hget0, hgetk, hset0, hsetk, hlen, hcat, Nat.add_assoc, Nat.add_zero, Nat.zero_add, List.length_append, and_true, true_and, AV.flat, hb7, get_app hb7, read_get hb7, read_app hb7, astore_get hb7, astore_app hb7, get_set hb7, get_set_app hb7, read_set hb7, read_set_app hb7, astore_set hb7, astore_set_app hb7, List.set_set, hget0s, hgetks, hread0s, hreadks, List.length_set, *, -hK, -h1, -l1] | with_reducible refine IfB_dec (fun h => ?_) (fun h => ?_) | with_reducible refine Guard_dec (fun h => ?_) (fun h => ?_) | with_reducible refine Guard_ndec (fun h => ?_) (fun h => ?_) | with_reducible refine Guard_not (fun h => ?_) (fun h => ?_) | with_reducible refine IfB_ndec (fun h => ?_) (fun h => ?_) | with_reducible refine IfB_not (fun h => ?_) (fun h => ?_) | with_reducible refine Guard_split (fun h => ?_) (fun h => ?_) | with_reducible refine IfB_split (fun h => ?_) (fun h => ?_))
    have g5 := g4.setb hp [.int .u8 1, .int .i64 t0, .str a0, .str b0, .int .u32 f0, .int .i64 d0, .int .u64 u0, .str [], .int .u8 0, .int .i64 0, .bool false]
    clear hb7
    have hzz := g5.hz
    have hbb := g5.hb
    repeat' (first | simp only [go_sem, Nat.reduceLT, Nat.reduceEqDiff, Nat.reduceAdd, Nat.reduceMul, Nat.reduceSub, Nat.reduceLeDiff, Int.reduceToNat, Int.reduceNeg, Int.reduceLT, Int.reduceLE, Int.reduceEq, reduceCtorEq, Int.natCast_zero, Int.natCast_one, Int.cast_ofNat_Int, Bool.not_not, false_eq_decide, true_eq_decide, hread0, hreadk, read_cons0, read_consk, astore_h0, astore_hk, hget0, hgetk, hset0, hsetk, hlen, hcat, Nat.add_assoc, Nat.add_zero, Nat.zero_add, List.length_append, and_true, true_and, AV.flat, hzz, get_app hzz, read_get hzz, read_app hzz, astore_get hzz, astore_app hzz, get_set hzz, get_set_app hzz, read_set hzz, read_set_app hzz, astore_set hzz, astore_set_app hzz, List.set_set, hget0s, hgetks, hread0s, hreadks, List.length_set, hbb, get_app hbb, read_get hbb, read_app hbb, *, -hK, -h1, -l1] | with_reducible refine IfB_dec (fun h => ?_) (fun h => ?_) | with_reducible refine Guard_dec (fun h => ?_) (fun h => ?_) | with_reducible refine Guard_ndec (fun h => ?_) (fun h => ?_) | with_reducible refine Guard_not (fun h => ?_) (fun h => ?_) | with_reducible refine IfB_ndec (fun h => ?_) (fun h => ?_) | with_reducible refine IfB_not (fun h => ?_) (fun h => ?_) | with_reducible refine Guard_split (fun h => ?_) (fun h => ?_) | with_reducible refine IfB_split (fun h => ?_) (fun h => ?_))
    exact hK _ _ ⟨rfl, g5.fin hp _⟩
  have i1 : ¬ (k0.toNat : Int) = 1 := by omega
  have i2 : ¬ (k0.toNat : Int) = 2 := by omega
  have i3 : ¬ (k0.toNat : Int) = 3 := by omega
  have i4 : ¬ (k0.toNat : Int) = 4 := by omega
  have i5 : ¬ (k0.toNat : Int) = 5 := by omega
  have i6 : ¬ (k0.toNat : Int) = 6 := by omega
  have i7 : ¬ (k0.toNat : Int) = 7 := by omega
  rw [if_neg q1, if_neg q2, if_neg q3, if_neg q4, if_neg q5, if_neg q6, if_neg q7] at hK
  simp only [chg0] at hK
  clear q1 q2 q3 q4 q5 q6 q7
  refine WC_of_body hT Try.func61 rfl (by simp [Try.f61]) (by simp [Try.f61]) (wx_sound hT _ ?_)
  simp only [Try.f61]
  repeat' (first | simp only [go_sem, Nat.reduceLT, Nat.reduceEqDiff, Nat.reduceAdd, Nat.reduceMul, Nat.reduceSub, Nat.reduceLeDiff, Int.reduceToNat, Int.reduceNeg, Int.reduceLT, Int.reduceLE, Int.reduceEq, reduceCtorEq, Int.natCast_zero, Int.natCast_one, Int.cast_ofNat_Int, Bool.not_not, false_eq_decide, true_eq_decide, hread0, hreadk, read_cons0, read_consk, astore_h0, astore_hk, hget0, hgetk, hset0, hsetk, hlen, hcat, Nat.add_assoc, Nat.add_zero, Nat.zero_add, List.length_append, and_true, true_and, AV.flat, *, -hK, -b1, -h1, -l1] | refine WC.call (b1) ?_ | with_reducible refine IfB_dec (fun h => ?_) (fun h => ?_) | with_reducible refine Guard_dec (fun h => ?_) (fun h => ?_) | with_reducible refine Guard_ndec (fun h => ?_) (fun h => ?_) | with_reducible refine Guard_not (fun h => ?_) (fun h => ?_) | with_reducible refine IfB_ndec (fun h => ?_) (fun h => ?_) | with_reducible refine IfB_not (fun h => ?_) (fun h => ?_) | with_reducible refine Guard_split (fun h => ?_) (fun h => ?_) | with_reducible refine IfB_split (fun h => ?_) (fun h => ?_))
  clear b1
  simp only [List.length_set, List.length_append, List.length_cons, List.length_nil, Nat.zero_add]
  generalize hG : (List.set (H ++ [(⟨[.int .u8 0, .int .i64 0, .str [], .str [], .int .u32 0, .int .i64 0, .int .u64 0, .str [], .int .u8 0, .int .i64 0, .bool false], 0, .full⟩ : Blk)]) p ⟨[Enc.u8.lst s1.l, .bool s1.bad], 0, .full⟩ ++ [(⟨[.int .u8 k0.toNat, .int .i64 0, .str [], .str [], .int .u32 0, .int .i64 0, .int .u64 0, .str [], .int .u8 0, .int .i64 0, .bool false], 0, .full⟩ : Blk)] : Heap) = G
  have g1 : BxI [.int .u8 0, .int .i64 0, .str [], .str [], .int .u32 0, .int .i64 0, .int .u64 0, .str [], .int .u8 0, .int .i64 0, .bool false] H p s1 [.int .u8 k0.toNat, .int .i64 0, .str [], .str [], .int .u32 0, .int .i64 0, .int .u64 0, .str [], .int .u8 0, .int .i64 0, .bool false] G := by
    subst hG
    refine ⟨by simp, ?_, ?_, ?_, fun b hb hne => ?_⟩
    · rw [List.getElem?_append_left (by simp; omega), List.getElem?_set_self (by simp; omega)]
    · rw [List.getElem?_append_left (by simp), List.getElem?_set_ne (by omega)]; simp
    · rw [List.getElem?_append_right (by simp)]; simp
    · rw [List.getElem?_append_left (by simp; omega), List.getElem?_set_ne (by omega), List.getElem?_append_left hb]
  clear hG
  have hpp := g1.hp
  repeat' (first | simp only [go_sem, Nat.reduceLT, Nat.reduceEqDiff, Nat.reduceAdd, Nat.reduceMul, Nat.reduceSub, Nat.reduceLeDiff, Int.reduceToNat, Int.reduceNeg, Int.reduceLT, Int.reduceLE, Int.reduceEq, reduceCtorEq, Int.natCast_zero, Int.natCast_one, Int.cast_ofNat_Int, Bool.not_not, false_eq_decide, true_eq_decide, hread0, hreadk, read_cons0, read_consk, astore_h0, astore_hk, hget0, hgetk, hset0, hsetk, hlen, hcat, Nat.add_assoc, Nat.add_zero, Nat.zero_add, List.length_append, and_true, true_and, AV.flat, hpp, get_app hpp, read_get hpp, read_app hpp, astore_get hpp, astore_app hpp, get_set hpp, get_set_app hpp, read_set hpp, read_set_app hpp, astore_set hpp, astore_set_app hpp, List.set_set, hget0s, hgetks, hread0s, hreadks, List.length_set, *, -hK, -h1, -l1] | with_reducible refine IfB_dec (fun h => ?_) (fun h => ?_) | with_reducible refine Guard_dec (fun h => ?_) (fun h => ?_) | with_reducible refine Guard_ndec (fun h => ?_) (fun h => ?_) | with_reducible refine Guard_not (fun h => ?_) (fun h => ?_) | with_reducible refine IfB_ndec (fun h => ?_) (fun h => ?_) | with_reducible refine IfB_not (fun h => ?_) (fun h => ?_) | with_reducible refine Guard_split (fun h => ?_) (fun h => ?_) | with_reducible refine IfB_split (fun h => ?_) (fun h => ?_))
  have g2 := g1.setp hp (s' := ⟨s1.l, true⟩) rfl
  simp only [RS.blk] at g2
  clear hpp
  have hzz := g2.hz
  have hbb := g2.hb
  repeat' (first | simp only [go_sem, Nat.reduceLT, Nat.reduceEqDiff, Nat.reduceAdd, Nat.reduceMul, Nat.reduceSub, Nat.reduceLeDiff, Int.reduceToNat, Int.reduceNeg, Int.reduceLT, Int.reduceLE, Int.reduceEq, reduceCtorEq, Int.natCast_zero, Int.natCast_one, Int.cast_ofNat_Int, Bool.not_not, false_eq_decide, true_eq_decide, hread0, hreadk, read_cons0, read_consk, astore_h0, astore_hk, hget0, hgetk, hset0, hsetk, hlen, hcat, Nat.add_assoc, Nat.add_zero, Nat.zero_add, List.length_append, and_true, true_and, AV.flat, hzz, get_app hzz, read_get hzz, read_app hzz, astore_get hzz, astore_app hzz, get_set hzz, get_set_app hzz, read_set hzz, read_set_app hzz, astore_set hzz, astore_set_app hzz, List.set_set, hget0s, hgetks, hread0s, hreadks, List.length_set, hbb, get_app hbb, read_get hbb, read_app hbb, *, -hK, -h1, -l1] | with_reducible refine IfB_dec (fun h => ?_) (fun h => ?_) | with_reducible refine Guard_dec (fun h => ?_) (fun h => ?_) | with_reducible refine Guard_ndec (fun h => ?_) (fun h => ?_) | with_reducible refine Guard_not (fun h => ?_) (fun h => ?_) | with_reducible refine IfB_ndec (fun h => ?_) (fun h => ?_) | with_reducible refine IfB_not (fun h => ?_) (fun h => ?_) | with_reducible refine Guard_split (fun h => ?_) (fun h => ?_) | with_reducible refine IfB_split (fun h => ?_) (fun h => ?_))
  exact hK _ _ ⟨rfl, g2.fin hp _⟩
open Go Go.Proofs Go.Proofs.PI
theorem changeR_len (s : RS) : (changeR s).2.l.length ≤ s.l.length := by
  have hb := byteS_len s
  unfold changeR changeG
  generalize byteS s = q at *
  obtain ⟨x, t⟩ := q
  simp only at *
  repeat' split
  · have a1 := numR_len 4 t
    have a2 := (textS_len (numR 4 t).2).2
    have a3 := (textS_len (textS (numR 4 t).2).2).2
    have a4 := numR_len 4294967295 (textS (textS (numR 4 t).2).2).2
    have a5 := numR_len 1099511627776 (numR 4294967295 (textS (textS (numR 4 t).2).2).2).2
    have a6 := numR_len 18446744073709551615 (numR 1099511627776 (numR 4294967295 (textS (textS (numR 4 t).2).2).2).2).2
    show (numR 18446744073709551615 _).2.l.length ≤ _
    omega
  · have a1 := numR_len 4 t
    have a2 := (textS_len (numR 4 t).2).2
    have a3 := byteS_len (textS (numR 4 t).2).2
    show (byteS _).2.l.length ≤ _
    omega
  · have a1 := numR_len 4 t
    show (numR 4 t).2.l.length ≤ _
    omega
  · have a1 := numR_len 1099511627776 t
    show (numR _ t).2.l.length ≤ _
    omega
  · have a1 := numR_len 4 t
    have a2 := numR_len 16 (numR 4 t).2
    show (numR _ (numR 4 t).2).2.l.length ≤ _
    omega
  · have a1 := numR_len 2147483647 t
    have a2 := byteS_len (numR 2147483647 t).2
    show (byteS _).2.l.length ≤ _
    omega
  · have a1 := numR_len 2147483647 t
    show (numR _ t).2.l.length ≤ _
    omega
  · show t.l.length ≤ _
    omega
open Go Go.Proofs Go.Proofs.PI
theorem numR_bad {m : Nat} {s : RS} (h : (numR m s).2.bad = true) (hs : s.bad = false) : (numR m s).1 = 0 := by
  unfold numR at *
  split at h
  · split at h
    · rename_i h1; rw [if_pos h1]
    · simp [hs] at h
  · rfl
theorem refOfChanges_spec (b : List UInt8) (hl : b.length ≤ 140737488355328) (H : Heap) : WC Try.prog 33 [Enc.u8.lst b] H fun r H' => r = .tup [chgE.lst (ofChangesL b).1, .int .i64 (ofChangesL b).2] ∧ H' = H := by
  refine WC_val fun K hK => ?_
  by_cases hbig : b.length > 65536
  · have ib : (b.length : Int) > 65536 := by omega
    rw [show ofChangesL b = ([], 3) by unfold ofChangesL; rw [if_pos hbig]] at hK
    clear hbig
    refine WC_of_body hT Try.func33 rfl (by simp [Try.f33]) (by simp [Try.f33]) (wx_sound hT _ ?_)
    simp only [Try.f33]
    repeat' (first | simp only [go_sem, Nat.reduceLT, Nat.reduceEqDiff, Nat.reduceAdd, Nat.reduceMul, Nat.reduceSub, Nat.reduceLeDiff, Int.reduceToNat, Int.reduceNeg, Int.reduceLT, Int.reduceLE, Int.reduceEq, reduceCtorEq, Int.natCast_zero, Int.natCast_one, Int.cast_ofNat_Int, Bool.not_not, false_eq_decide, true_eq_decide, hread0, hreadk, read_cons0, read_consk, astore_h0, astore_hk, hget0, hgetk, hset0, hsetk, hlen, hcat, Nat.add_assoc, Nat.add_zero, Nat.zero_add, List.length_append, and_true, true_and, AV.flat, *, -hK] | with_reducible refine IfB_dec (fun h => ?_) (fun h => ?_) | with_reducible refine Guard_dec (fun h => ?_) (fun h => ?_) | with_reducible refine Guard_ndec (fun h => ?_) (fun h => ?_) | with_reducible refine Guard_not (fun h => ?_) (fun h => ?_) | with_reducible refine IfB_ndec (fun h => ?_) (fun h => ?_) | with_reducible refine IfB_not (fun h => ?_) (fun h => ?_) | with_reducible refine Guard_split (fun h => ?_) (fun h => ?_) | with_reducible refine IfB_split (fun h => ?_) (fun h => ?_))
    exact hK _ _ (Thaw.tup_row ⟨.nils, .int _ _, trivial⟩) (Keep.refl _ _)
  have ib : ¬ (b.length : Int) > 65536 := by omega
  have q1 := ofCh_bad (b := b) numR_encF changeR_encF (by omega)
  have q2 := ofCh_none (b := b) numR_encF changeR_encF (by omega)
  have q3 := ofCh_some (num := numR) (b := b) changeR_ok
  unfold ofChgs at q1 q2 q3
  have hb0 := fun h => numR_bad (m := 4096) (s := ⟨b, false⟩) h rfl
  obtain ⟨n0, z0, hn0⟩ : ∃ x s, numR 4096 ⟨b, false⟩ = (x, s) := ⟨_, _, rfl⟩
  have ln0 := numR_len 4096 ⟨b, false⟩
  have hn4 := numR_le 4096 ⟨b, false⟩
  rw [hn0] at q1 q2 q3 ln0 hn4 hb0
  simp only at q1 q2 q3 ln0 hn4 hb0
  have b1 := fun (L : Heap) (hb : L[0]? = some ⟨[Enc.u8.lst b, .bool false], 0, .full⟩) => Number_spec H.length 4096 (by omega) b false hl (H ++ L) (by rw [hget0]; exact hb)
  rw [hn0] at b1
  simp only [RS.blk, Int.cast_ofNat_Int] at b1
  have se := fun (H : Heap) (l : List UInt8) => str_enc (T := T) (H := H) (l := l) se30 tk9 tk5
  have inv0 : (z0.bad = false ∧ readsGo changeR n0 z0 [] = readsGo changeR (n0 - 0) z0 []) ∨ (z0.bad = true ∧ readsGo changeR n0 z0 [] = (([] : List Chg), z0)) := by
    cases h : z0.bad with
    | false => exact .inl ⟨rfl, rfl⟩
    | true => refine .inr ⟨rfl, ?_⟩; rw [hb0 h]; rfl
  clear hb0
  refine WC_of_body hT Try.func33 rfl (by simp [Try.f33]) (by simp [Try.f33]) (wx_sound hT _ ?_)
  simp only [Try.f33]
  repeat' (first | simp only [go_sem, Nat.reduceLT, Nat.reduceEqDiff, Nat.reduceAdd, Nat.reduceMul, Nat.reduceSub, Nat.reduceLeDiff, Int.reduceToNat, Int.reduceNeg, Int.reduceLT, Int.reduceLE, Int.reduceEq, reduceCtorEq, Int.natCast_zero, Int.natCast_one, Int.cast_ofNat_Int, Bool.not_not, false_eq_decide, true_eq_decide, hread0, hreadk, read_cons0, read_consk, astore_h0, astore_hk, hget0, hgetk, hset0, hsetk, hlen, hcat, Nat.add_assoc, Nat.add_zero, Nat.zero_add, List.length_append, and_true, true_and, AV.flat, *, -hK, -b1, -hn0, -q1, -q2, -q3, -ln0, -hn4, -inv0] | refine WC.call (b1 _ rfl) ?_ | with_reducible refine IfB_dec (fun h => ?_) (fun h => ?_) | with_reducible refine Guard_dec (fun h => ?_) (fun h => ?_) | with_reducible refine Guard_ndec (fun h => ?_) (fun h => ?_) | with_reducible refine Guard_not (fun h => ?_) (fun h => ?_) | with_reducible refine IfB_ndec (fun h => ?_) (fun h => ?_) | with_reducible refine IfB_not (fun h => ?_) (fun h => ?_) | with_reducible refine Guard_split (fun h => ?_) (fun h => ?_) | with_reducible refine IfB_split (fun h => ?_) (fun h => ?_))
  refine WX_loopS [0, 4, 5] (fun k fr' H' => ∃ (i : Nat) (v : AV) (s : RS) (acc : List Chg), k = n0 - i ∧ i ≤ n0 ∧ fr'.get 7 = .int .u64 i ∧ fr'.get 6 = v ∧ ((s.bad = false ∧ readsGo changeR n0 z0 [] = readsGo changeR (n0 - i) s acc) ∨ (s.bad = true ∧ readsGo changeR n0 z0 [] = (acc, s))) ∧ s.l.length ≤ b.length ∧ acc.length = i ∧ (∀ c ∈ acc, c.Ok) ∧ H'[H.length]? = some ⟨[Enc.u8.lst s.l, .bool s.bad], 0, .full⟩ ∧ OwnE chgE (H.length + 1) H' v acc ∧ Keep none H H') n0 ⟨0, .nils, z0, [], rfl, Nat.zero_le _, by simp only [go_sem, Nat.reduceLT, Nat.reduceEqDiff, Nat.reduceAdd, Nat.reduceMul, Nat.reduceSub, Nat.reduceLeDiff, Int.reduceToNat, Int.reduceNeg, Int.reduceLT, Int.reduceLE, Int.reduceEq, reduceCtorEq]; rfl, by simp only [go_sem, Nat.reduceLT, Nat.reduceEqDiff, Nat.reduceAdd, Nat.reduceMul, Nat.reduceSub, Nat.reduceLeDiff, Int.reduceToNat, Int.reduceNeg, Int.reduceLT, Int.reduceLE, Int.reduceEq, reduceCtorEq], inv0, ln0, rfl, by simp, by rw [hget0]; rfl, OwnE.nils _ _ _, Keep.app _ _ _⟩ ?_
  clear b1 hn0 inv0
  rintro k fr' H' A R hA hs hg hR ⟨i, v, s, acc, rfl, hi, f7, f6, hgo, hsl, hal, hok, hr, ov, kk⟩
  have s0 := hg 0 (by decide)
  have s4 := hg 4 (by decide)
  have s5 := hg 5 (by decide)
  simp only [Fr.get_put, Fr.get_init, List.getD_cons_zero, List.getD_cons_succ, Nat.reduceEqDiff, if_true, if_false] at s0 s4 s5
  have hv := ov.one
  have hvb : ∀ b, v.blk = some b → H.length + 1 ≤ b ∧ b < H'.length := fun b hb => ⟨ov.ge hb, ov.lt hb⟩
  have hH : H.length + 1 ≤ H'.length := by have := (List.getElem?_eq_some_iff.1 hr).1; omega
  by_cases hlt : i < n0 ∧ s.bad = false
  · obtain ⟨hlt, hsb⟩ := hlt
    refine wx_sound hT _ ?_
    have i1 : (i : Int) < n0 := by omega
    have e3 : IntKind.u64.wrap ((i : Int) + 1) = ((i + 1 : Nat) : Int) := by rw [IntKind.wrap_u64]; omega
    have cs := refChange_spec H.length s.l s.bad (by omega) H' hr
    rw [show (⟨s.l, s.bad⟩ : RS) = s from rfl] at cs
    have lc := changeR_len s
    have oc := changeR_ok s
    obtain ⟨m, hm⟩ : ∃ m, n0 - i = m + 1 := ⟨n0 - i - 1, by omega⟩
    have hgo := hgo.resolve_right (by simp [hsb])
    replace hgo := hgo.2
    rw [hm, readsGo_step] at hgo
    rw [hsb] at hr
    generalize changeR s = q at *
    obtain ⟨c, t⟩ := q
    simp only [RS.blk] at cs lc oc hgo
    repeat' (first | simp only [go_sem, Nat.reduceLT, Nat.reduceEqDiff, Nat.reduceAdd, Nat.reduceMul, Nat.reduceSub, Nat.reduceLeDiff, Int.reduceToNat, Int.reduceNeg, Int.reduceLT, Int.reduceLE, Int.reduceEq, reduceCtorEq, Int.natCast_zero, Int.natCast_one, Int.cast_ofNat_Int, Bool.not_not, false_eq_decide, true_eq_decide, hread0, hreadk, read_cons0, read_consk, astore_h0, astore_hk, hget0, hgetk, hset0, hsetk, hlen, hcat, Nat.add_assoc, Nat.add_zero, Nat.zero_add, List.length_append, and_true, true_and, AV.flat, hv, one_solid hv, one_cells hv, hr, get_app hr, read_get hr, read_app hr, *, -hK, -q1, -q2, -q3, -hgo, -hok, -ov, -cs, -hm, -hal, -oc, -hsb] | with_reducible refine IfB_dec (fun h => ?_) (fun h => ?_) | with_reducible refine Guard_dec (fun h => ?_) (fun h => ?_) | with_reducible refine Guard_ndec (fun h => ?_) (fun h => ?_) | with_reducible refine Guard_not (fun h => ?_) (fun h => ?_) | with_reducible refine IfB_ndec (fun h => ?_) (fun h => ?_) | with_reducible refine IfB_not (fun h => ?_) (fun h => ?_) | with_reducible refine Guard_split (fun h => ?_) (fun h => ?_) | with_reducible refine IfB_split (fun h => ?_) (fun h => ?_))
    refine cs.mono ?_
    rintro r G ⟨rfl, kG⟩
    have hrG := kG.get (get_set hr _) (by simp)
    have hlG := kG.len
    rw [List.length_set] at hlG
    have ks : Keep (some H.length) H' (List.set H' H.length ⟨[Enc.u8.lst t.l, .bool t.bad], 0, .full⟩) := Keep.of_set rfl
    have ovG := (ov.keep ks (fun b hb e => by cases hb; have := hvb _ e; omega)).keep kG (fun b hb => by cases hb)
    clear ks
    have kkG : Keep none H G := ⟨by omega, fun b hb _ => by rw [kG.at_ b (by rw [List.length_set]; omega) (by simp), List.getElem?_set_ne (by omega)]; exact kk.at_ b hb (by simp)⟩
    unfold Chg.av
    repeat' (first | simp only [go_sem, Nat.reduceLT, Nat.reduceEqDiff, Nat.reduceAdd, Nat.reduceMul, Nat.reduceSub, Nat.reduceLeDiff, Int.reduceToNat, Int.reduceNeg, Int.reduceLT, Int.reduceLE, Int.reduceEq, reduceCtorEq, Int.natCast_zero, Int.natCast_one, Int.cast_ofNat_Int, Bool.not_not, false_eq_decide, true_eq_decide, hread0, hreadk, read_cons0, read_consk, astore_h0, astore_hk, hget0, hgetk, hset0, hsetk, hlen, hcat, Nat.add_assoc, Nat.add_zero, Nat.zero_add, List.length_append, and_true, true_and, AV.flat, hv, one_solid hv, one_cells hv, *, -hK, -q1, -q2, -q3, -hgo, -hok, -ov, -cs, -hm, -hal, -oc, -ovG, -kG, -kkG, -hsb, -hr, -hrG] | with_reducible refine IfB_dec (fun h => ?_) (fun h => ?_) | with_reducible refine Guard_dec (fun h => ?_) (fun h => ?_) | with_reducible refine Guard_ndec (fun h => ?_) (fun h => ?_) | with_reducible refine Guard_not (fun h => ?_) (fun h => ?_) | with_reducible refine IfB_ndec (fun h => ?_) (fun h => ?_) | with_reducible refine IfB_not (fun h => ?_) (fun h => ?_) | with_reducible refine Guard_split (fun h => ?_) (fun h => ?_) | with_reducible refine IfB_split (fun h => ?_) (fun h => ?_))
    refine append1_enc (E := chgE) (m := H.length + 1) (x := c) ovG rfl se56 az71 td71 tk56 rfl rfl (by decide) (by simp only [chgE]; omega) (by omega) ?_
    intro v4 H4 o4 k4 hn4
    have hr4 := k4.get hrG (fun e => by have := hvb _ e; omega)
    have kk4 : Keep none H H4 := ⟨by have := k4.len; omega, fun b hb _ => by rw [k4.at_ b (by omega) (fun e => by have := hvb _ e; omega)]; exact kkG.at_ b hb (by simp)⟩
    have hv4 := o4.one
    have hok2 : ∀ c' ∈ acc ++ [c], c'.Ok := fun c' hc' => by
      rcases List.mem_append.1 hc' with h | h
      · exact hok _ h
      · simp at h; rw [h]; exact oc
    have inv2 : (t.bad = false ∧ readsGo changeR n0 z0 [] = readsGo changeR (n0 - (i + 1)) t (acc ++ [c])) ∨ (t.bad = true ∧ readsGo changeR n0 z0 [] = (acc ++ [c], t)) := by
      rw [show n0 - (i + 1) = m by omega]
      cases hbd : t.bad with
      | true => rw [hbd] at hgo; exact .inr ⟨rfl, by rw [hgo]; rfl⟩
      | false => rw [hbd] at hgo; exact .inl ⟨rfl, by rw [hgo]; rfl⟩
    have back : ∀ fr2, A fr2 → fr2.get 7 = .int .u64 ((i + 1 : Nat) : Int) → fr2.get 6 = v4 → R fr2 H4 := fun fr2 ha g1 g2 => hR fr2 H4 ha (n0 - (i + 1)) (by omega) ⟨i + 1, v4, t, acc ++ [c], rfl, by omega, g1, g2, inv2, by omega, by simp [hal], hok2, hr4, o4, kk4⟩
    clear q1 q2 q3 hR hok2 inv2
    repeat' (first | simp only [go_sem, Nat.reduceLT, Nat.reduceEqDiff, Nat.reduceAdd, Nat.reduceMul, Nat.reduceSub, Nat.reduceLeDiff, Int.reduceToNat, Int.reduceNeg, Int.reduceLT, Int.reduceLE, Int.reduceEq, reduceCtorEq, Int.natCast_zero, Int.natCast_one, Int.cast_ofNat_Int, Bool.not_not, false_eq_decide, true_eq_decide, hread0, hreadk, read_cons0, read_consk, astore_h0, astore_hk, hget0, hgetk, hset0, hsetk, hlen, hcat, Nat.add_assoc, Nat.add_zero, Nat.zero_add, List.length_append, and_true, true_and, AV.flat, hv4, one_solid hv4, one_cells hv4, *, -hK, -hgo, -hok, -ov, -cs, -hm, -hal, -oc, -ovG, -kG, -kkG, -o4, -k4, -kk4, -back, -hsb, -hr, -hrG, -hr4] | with_reducible refine IfB_dec (fun h => ?_) (fun h => ?_) | with_reducible refine Guard_dec (fun h => ?_) (fun h => ?_) | with_reducible refine Guard_ndec (fun h => ?_) (fun h => ?_) | with_reducible refine Guard_not (fun h => ?_) (fun h => ?_) | with_reducible refine IfB_ndec (fun h => ?_) (fun h => ?_) | with_reducible refine IfB_not (fun h => ?_) (fun h => ?_) | with_reducible refine Guard_split (fun h => ?_) (fun h => ?_) | with_reducible refine IfB_split (fun h => ?_) (fun h => ?_))
    exact back _ (by (repeat (first | exact hs | refine hA _ _ _ (by decide) ?_))) (by simp only [go_sem, Nat.reduceLT, Nat.reduceEqDiff, Nat.reduceAdd, Nat.reduceMul, Nat.reduceSub, Nat.reduceLeDiff, Int.reduceToNat, Int.reduceNeg, Int.reduceLT, Int.reduceLE, Int.reduceEq, reduceCtorEq]) (by simp only [go_sem, Nat.reduceLT, Nat.reduceEqDiff, Nat.reduceAdd, Nat.reduceMul, Nat.reduceSub, Nat.reduceLeDiff, Int.reduceToNat, Int.reduceNeg, Int.reduceLT, Int.reduceLE, Int.reduceEq, reduceCtorEq])
  have hgo2 : readsGo changeR n0 z0 [] = (acc, s) := by
    rcases hgo with ⟨h1, h2⟩ | ⟨h1, h2⟩
    · rw [h2, show n0 - i = 0 by have : ¬ i < n0 := fun h => hlt ⟨h, h1⟩; omega]; rfl
    · exact h2
  rw [hgo2] at q1 q2 q3
  simp only at q1 q2 q3
  have hse : s.bad = false → ¬ (i : Int) < n0 := fun h h2 => hlt ⟨by omega, h⟩
  clear hR hs hg hA hgo hgo2 hlt
  refine WX_freezeFE ov (by decide) 6 f6 ?_
  intro G fz
  have hrG := fz.other H.length (fun e => by have := hvb _ e; omega)
  rw [hr] at hrG
  have kG : Keep none H G := ⟨by have := fz.len; omega, fun b hb _ => by rw [fz.other b (fun e => by have := hvb _ e; omega)]; exact kk.at_ b hb (by simp)⟩
  refine wx_sound hT _ ?_
  have cs := fun J => refChanges_spec acc (by omega) hok J
  clear fz ov hr kk hvb hv hH
  generalize changesL acc = ce at *
  obtain ⟨cb, e⟩ := ce
  simp only at cs
  by_cases hs : s.bad = true
  · rw [q1 hs] at hK
    rw [hs] at hrG
    clear q1 q2 q3 hs hse
    by_cases i1 : (i : Int) < n0
    · repeat' (first | simp only [go_sem, Nat.reduceLT, Nat.reduceEqDiff, Nat.reduceAdd, Nat.reduceMul, Nat.reduceSub, Nat.reduceLeDiff, Int.reduceToNat, Int.reduceNeg, Int.reduceLT, Int.reduceLE, Int.reduceEq, reduceCtorEq, Int.natCast_zero, Int.natCast_one, Int.cast_ofNat_Int, Bool.not_not, false_eq_decide, true_eq_decide, hread0, hreadk, read_cons0, read_consk, astore_h0, astore_hk, hget0, hgetk, hset0, hsetk, hlen, hcat, Nat.add_assoc, Nat.add_zero, Nat.zero_add, List.length_append, and_true, true_and, AV.flat, hrG, get_app hrG, read_get hrG, read_app hrG, *, -hK, -hok, -hal, -cs] | refine WC.call (cs _) ?_ | with_reducible refine IfB_dec (fun h => ?_) (fun h => ?_) | with_reducible refine Guard_dec (fun h => ?_) (fun h => ?_) | with_reducible refine Guard_ndec (fun h => ?_) (fun h => ?_) | with_reducible refine Guard_not (fun h => ?_) (fun h => ?_) | with_reducible refine IfB_ndec (fun h => ?_) (fun h => ?_) | with_reducible refine IfB_not (fun h => ?_) (fun h => ?_) | with_reducible refine Guard_split (fun h => ?_) (fun h => ?_) | with_reducible refine IfB_split (fun h => ?_) (fun h => ?_))
      exact hK _ _ (Thaw.tup_row ⟨.nils, .int _ _, trivial⟩) kG
    · repeat' (first | simp only [go_sem, Nat.reduceLT, Nat.reduceEqDiff, Nat.reduceAdd, Nat.reduceMul, Nat.reduceSub, Nat.reduceLeDiff, Int.reduceToNat, Int.reduceNeg, Int.reduceLT, Int.reduceLE, Int.reduceEq, reduceCtorEq, Int.natCast_zero, Int.natCast_one, Int.cast_ofNat_Int, Bool.not_not, false_eq_decide, true_eq_decide, hread0, hreadk, read_cons0, read_consk, astore_h0, astore_hk, hget0, hgetk, hset0, hsetk, hlen, hcat, Nat.add_assoc, Nat.add_zero, Nat.zero_add, List.length_append, and_true, true_and, AV.flat, hrG, get_app hrG, read_get hrG, read_app hrG, *, -hK, -hok, -hal, -cs] | refine WC.call (cs _) ?_ | with_reducible refine IfB_dec (fun h => ?_) (fun h => ?_) | with_reducible refine Guard_dec (fun h => ?_) (fun h => ?_) | with_reducible refine Guard_ndec (fun h => ?_) (fun h => ?_) | with_reducible refine Guard_not (fun h => ?_) (fun h => ?_) | with_reducible refine IfB_ndec (fun h => ?_) (fun h => ?_) | with_reducible refine IfB_not (fun h => ?_) (fun h => ?_) | with_reducible refine Guard_split (fun h => ?_) (fun h => ?_) | with_reducible refine IfB_split (fun h => ?_) (fun h => ?_))
      exact hK _ _ (Thaw.tup_row ⟨.nils, .int _ _, trivial⟩) kG
  have hs : s.bad = false := by simpa using hs
  have i1 := hse hs
  rw [hs] at hrG
  by_cases hce : (cb, e) = (b, 0)
  · rw [q3 hce] at hK
    simp only [Prod.mk.injEq] at hce
    obtain ⟨rfl, rfl⟩ := hce
    clear q1 q2 q3 hs hse
    repeat' (first | simp only [go_sem, Nat.reduceLT, Nat.reduceEqDiff, Nat.reduceAdd, Nat.reduceMul, Nat.reduceSub, Nat.reduceLeDiff, Int.reduceToNat, Int.reduceNeg, Int.reduceLT, Int.reduceLE, Int.reduceEq, reduceCtorEq, Int.natCast_zero, Int.natCast_one, Int.cast_ofNat_Int, Bool.not_not, false_eq_decide, true_eq_decide, hread0, hreadk, read_cons0, read_consk, astore_h0, astore_hk, hget0, hgetk, hset0, hsetk, hlen, hcat, Nat.add_assoc, Nat.add_zero, Nat.zero_add, List.length_append, and_true, true_and, AV.flat, hrG, get_app hrG, read_get hrG, read_app hrG, *, -hK, -hok, -hal, -cs] | refine WC.call (cs _) ?_ | with_reducible refine IfB_dec (fun h => ?_) (fun h => ?_) | with_reducible refine Guard_dec (fun h => ?_) (fun h => ?_) | with_reducible refine Guard_ndec (fun h => ?_) (fun h => ?_) | with_reducible refine Guard_not (fun h => ?_) (fun h => ?_) | with_reducible refine IfB_ndec (fun h => ?_) (fun h => ?_) | with_reducible refine IfB_not (fun h => ?_) (fun h => ?_) | with_reducible refine Guard_split (fun h => ?_) (fun h => ?_) | with_reducible refine IfB_split (fun h => ?_) (fun h => ?_))
    exact hK _ _ (Thaw.tup_row ⟨.lst _ _, .int _ _, trivial⟩) kG
  rw [q2 hce] at hK
  simp only [Prod.mk.injEq] at hce
  clear q1 q2 q3 hs hse
  by_cases he : e = 0
  · subst he
    have hcb : ¬ cb = b := fun h => hce ⟨h, rfl⟩
    clear hce
    repeat' (first | simp only [go_sem, Nat.reduceLT, Nat.reduceEqDiff, Nat.reduceAdd, Nat.reduceMul, Nat.reduceSub, Nat.reduceLeDiff, Int.reduceToNat, Int.reduceNeg, Int.reduceLT, Int.reduceLE, Int.reduceEq, reduceCtorEq, Int.natCast_zero, Int.natCast_one, Int.cast_ofNat_Int, Bool.not_not, false_eq_decide, true_eq_decide, hread0, hreadk, read_cons0, read_consk, astore_h0, astore_hk, hget0, hgetk, hset0, hsetk, hlen, hcat, Nat.add_assoc, Nat.add_zero, Nat.zero_add, List.length_append, and_true, true_and, AV.flat, hrG, get_app hrG, read_get hrG, read_app hrG, *, -hK, -hok, -hal, -cs] | refine WC.call (cs _) ?_ | with_reducible refine IfB_dec (fun h => ?_) (fun h => ?_) | with_reducible refine Guard_dec (fun h => ?_) (fun h => ?_) | with_reducible refine Guard_ndec (fun h => ?_) (fun h => ?_) | with_reducible refine Guard_not (fun h => ?_) (fun h => ?_) | with_reducible refine IfB_ndec (fun h => ?_) (fun h => ?_) | with_reducible refine IfB_not (fun h => ?_) (fun h => ?_) | with_reducible refine Guard_split (fun h => ?_) (fun h => ?_) | with_reducible refine IfB_split (fun h => ?_) (fun h => ?_))
    exact hK _ _ (Thaw.tup_row ⟨.nils, .int _ _, trivial⟩) kG
  · clear hce
    repeat' (first | simp only [go_sem, Nat.reduceLT, Nat.reduceEqDiff, Nat.reduceAdd, Nat.reduceMul, Nat.reduceSub, Nat.reduceLeDiff, Int.reduceToNat, Int.reduceNeg, Int.reduceLT, Int.reduceLE, Int.reduceEq, reduceCtorEq, Int.natCast_zero, Int.natCast_one, Int.cast_ofNat_Int, Bool.not_not, false_eq_decide, true_eq_decide, hread0, hreadk, read_cons0, read_consk, astore_h0, astore_hk, hget0, hgetk, hset0, hsetk, hlen, hcat, Nat.add_assoc, Nat.add_zero, Nat.zero_add, List.length_append, and_true, true_and, AV.flat, hrG, get_app hrG, read_get hrG, read_app hrG, *, -hK, -hok, -hal, -cs] | refine WC.call (cs _) ?_ | with_reducible refine IfB_dec (fun h => ?_) (fun h => ?_) | with_reducible refine Guard_dec (fun h => ?_) (fun h => ?_) | with_reducible refine Guard_ndec (fun h => ?_) (fun h => ?_) | with_reducible refine Guard_not (fun h => ?_) (fun h => ?_) | with_reducible refine IfB_ndec (fun h => ?_) (fun h => ?_) | with_reducible refine IfB_not (fun h => ?_) (fun h => ?_) | with_reducible refine Guard_split (fun h => ?_) (fun h => ?_) | with_reducible refine IfB_split (fun h => ?_) (fun h => ?_))
    exact hK _ _ (Thaw.tup_row ⟨.nils, .int _ _, trivial⟩) kG
end Go.Proofs.Ytakmlfbejbelaaa
