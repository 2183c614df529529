import Derived.Test.YtakllaigpjbgdaaLruC
set_option linter.unusedSimpArgs false
set_option linter.unusedVariables false
set_option maxRecDepth 100000
set_option maxHeartbeats 4000000
namespace Go.Proofs.Ytakllaigpjbgdaa
open Go Go.Proofs Go.Proofs.PI
def ord0 : Ord := ⟨[], []⟩
theorem OwnO.none (m : Nat) (H : Heap) : OwnO m H (.agg [.nils, .nils]) ord0 := ⟨.nils, .nils, rfl, OwnE.nils _ _ _, OwnE.nils _ _ _, fun b hb => by cases hb⟩
def addE (o : Ord) (s : List UInt8) : Int := if askE o s ≠ 0 then askE o s else if inO o s = true then 2 else if o.t.length + o.k.length = 256 then 9 else 0
def addO (o : Ord) (s : List UInt8) : Ord := if addE o s = 0 then ⟨s :: o.t, o.k⟩ else ord0
def hitE (o : Ord) (s : List UInt8) : Int := if askE o s ≠ 0 then askE o s else if inO o s = true then 0 else 6
def hitO (o : Ord) (s : List UInt8) : Ord := if hitE o s = 0 then levelO ⟨(takeO o s).t, s :: (takeO o s).k⟩ else ord0
def delO (o : Ord) (s : List UInt8) : Ord := if hitE o s = 0 then levelO (takeO o s) else ord0
theorem askE_ok {o : Ord} {s : List UInt8} (h : askE o s = 0) : o.may ∧ kOk s = true := by
  unfold askE at h
  split at h
  · cases h
  · rename_i hm
    split at h
    · cases h
    · rename_i hk
      exact ⟨Classical.not_not.1 hm, by simpa using hk⟩
theorem askE_cases (o : Ord) (s : List UInt8) : askE o s = 8 ∨ askE o s = 3 ∨ askE o s = 0 := by
  unfold askE; split
  · exact .inl rfl
  · split
    · exact .inr (.inl rfl)
    · exact .inr (.inr rfl)
theorem takeO_len (o : Ord) (s : List UInt8) : (takeO o s).t.length ≤ o.t.length ∧ (takeO o s).k.length ≤ o.k.length := by
  unfold takeO; split
  · exact ⟨List.length_erase_le, Nat.le_refl _⟩
  · exact ⟨Nat.le_refl _, List.length_erase_le⟩
/-- The answer is put into its cell. -/
theorem OO.answer {H G : Heap} {q : Nat} {o : Ord} {vt vk : AV} (x : OO none (H.length + 2) G q o vt vk) (h0 : ∀ b, b < H.length → G[b]? = H[b]?) : OwnO H.length (List.set G (H.length + 1) ⟨[vt, vk], 0, .full⟩) (.agg [vt, vk]) o ∧ Keep none H (List.set G (H.length + 1) ⟨[vt, vk], 0, .full⟩) :=
  ⟨⟨vt, vk, rfl, own_same (Own.mono x.ot (by omega)) fun b hb => List.getElem?_set_ne fun e => by have := x.ot.ge hb; omega, own_same (Own.mono x.ok (by omega)) fun b hb => List.getElem?_set_ne fun e => by have := x.ok.ge hb; omega, x.dis⟩,
    ⟨by rw [List.length_set]; have := x.le; omega, fun b hb _ => by rw [List.getElem?_set_ne (by omega)]; exact h0 b hb⟩⟩
theorem add_own (o : Ord) (hf : o.fit) (s : List UInt8) (H : Heap) : WC Try.prog 12 [o.av, .str s] H fun r H' => (∃ a, r = .tup [a, .int .i64 (addE o s)] ∧ OwnO H.length H' a (addO o s)) ∧ Keep none H H' := by
  refine WC_of_K fun K hK => ?_
  have ak := fun J => asked_own o hf s J
  have hcases := askE_cases o s
  obtain ⟨hf1, hf2⟩ := hf
  rcases hcases with hE | hE | hE
  · have hA : addE o s = 8 := by unfold addE; rw [if_pos (by rw [hE]; decide), hE]
    rw [hE] at ak
    rw [hA, show addO o s = ord0 by unfold addO; rw [if_neg (by rw [hA]; decide)]] at hK
    rw [if_neg (by decide)] at ak
    unfold Ord.av at *
    refine WC_of_body hT Try.func12 rfl (by simp [Try.f12]) (by simp [Try.f12]) (wx_sound hT _ ?_)
    simp only [Try.f12]
    repeat' (first | simp only [go_sem, Nat.reduceLT, Nat.reduceEqDiff, Nat.reduceAdd, Nat.reduceMul, Nat.reduceSub, Nat.reduceLeDiff, Int.reduceToNat, Int.reduceNeg, Int.reduceLT, Int.reduceLE, Int.reduceEq, reduceCtorEq, Int.natCast_zero, Int.natCast_one, Int.cast_ofNat_Int, Bool.not_not, false_eq_decide, true_eq_decide, hread0, hreadk, read_cons0, read_consk, astore_h0, astore_hk, hget0, hgetk, hset0, hsetk, hlen, hcat, Nat.add_assoc, Nat.add_zero, Nat.zero_add, List.length_append, and_true, true_and, AV.flat, *, -hK, -ak, -hE, -hA] | with_reducible refine IfB_dec (fun h => ?_) (fun h => ?_) | with_reducible refine Guard_dec (fun h => ?_) (fun h => ?_) | with_reducible refine Guard_ndec (fun h => ?_) (fun h => ?_) | with_reducible refine Guard_not (fun h => ?_) (fun h => ?_) | with_reducible refine IfB_ndec (fun h => ?_) (fun h => ?_) | with_reducible refine IfB_not (fun h => ?_) (fun h => ?_) | with_reducible refine Guard_split (fun h => ?_) (fun h => ?_) | with_reducible refine IfB_split (fun h => ?_) (fun h => ?_))
    refine (ak _).mono ?_
    rintro _ H1 ⟨⟨a, rfl, ha⟩, k1⟩
    rw [if_neg (by decide)] at ha
    subst ha
    clear ak
    have g1 := k1.get (b := H.length + 1) (B := ⟨[.nils, .nils], 0, .full⟩) (by rw [hgetk]; rfl) (by simp)
    have hl1 : H.length + 2 ≤ H1.length := by have := k1.len; simpa using this
    have g1b := get_app g1 [(⟨[.nils, .nils], 0, .full⟩ : Blk)]
    have kF : Keep none H (List.set (H1 ++ [(⟨[.nils, .nils], 0, .full⟩ : Blk)]) (H.length + 1) ⟨[.nils, .nils], 0, .full⟩) := ⟨by simp; omega, fun b hb _ => by rw [List.getElem?_set_ne (by omega), List.getElem?_append_left (by omega), k1.at_ b (by simp; omega) (by simp), List.getElem?_append_left hb]⟩
    repeat' (first | simp only [go_sem, Nat.reduceLT, Nat.reduceEqDiff, Nat.reduceAdd, Nat.reduceMul, Nat.reduceSub, Nat.reduceLeDiff, Int.reduceToNat, Int.reduceNeg, Int.reduceLT, Int.reduceLE, Int.reduceEq, reduceCtorEq, Int.natCast_zero, Int.natCast_one, Int.cast_ofNat_Int, Bool.not_not, false_eq_decide, true_eq_decide, hread0, hreadk, read_cons0, read_consk, astore_h0, astore_hk, hget0, hgetk, hset0, hsetk, hlen, hcat, Nat.add_assoc, Nat.add_zero, Nat.zero_add, List.length_append, and_true, true_and, AV.flat, g1b, get_app g1b, read_get g1b, read_app g1b, astore_get g1b, astore_app g1b, get_set g1b, get_set_app g1b, read_set g1b, read_set_app g1b, astore_set g1b, astore_set_app g1b, List.set_set, hget0s, hgetks, hread0s, hreadks, List.length_set, *, -hK, -k1, -hl1, -kF, -g1] | with_reducible refine IfB_dec (fun h => ?_) (fun h => ?_) | with_reducible refine Guard_dec (fun h => ?_) (fun h => ?_) | with_reducible refine Guard_ndec (fun h => ?_) (fun h => ?_) | with_reducible refine Guard_not (fun h => ?_) (fun h => ?_) | with_reducible refine IfB_ndec (fun h => ?_) (fun h => ?_) | with_reducible refine IfB_not (fun h => ?_) (fun h => ?_) | with_reducible refine Guard_split (fun h => ?_) (fun h => ?_) | with_reducible refine IfB_split (fun h => ?_) (fun h => ?_))
    exact hK _ _ ⟨⟨_, rfl, OwnO.none _ _⟩, kF⟩
  · have hA : addE o s = 3 := by unfold addE; rw [if_pos (by rw [hE]; decide), hE]
    rw [hE] at ak
    rw [hA, show addO o s = ord0 by unfold addO; rw [if_neg (by rw [hA]; decide)]] at hK
    rw [if_neg (by decide)] at ak
    unfold Ord.av at *
    refine WC_of_body hT Try.func12 rfl (by simp [Try.f12]) (by simp [Try.f12]) (wx_sound hT _ ?_)
    simp only [Try.f12]
    repeat' (first | simp only [go_sem, Nat.reduceLT, Nat.reduceEqDiff, Nat.reduceAdd, Nat.reduceMul, Nat.reduceSub, Nat.reduceLeDiff, Int.reduceToNat, Int.reduceNeg, Int.reduceLT, Int.reduceLE, Int.reduceEq, reduceCtorEq, Int.natCast_zero, Int.natCast_one, Int.cast_ofNat_Int, Bool.not_not, false_eq_decide, true_eq_decide, hread0, hreadk, read_cons0, read_consk, astore_h0, astore_hk, hget0, hgetk, hset0, hsetk, hlen, hcat, Nat.add_assoc, Nat.add_zero, Nat.zero_add, List.length_append, and_true, true_and, AV.flat, *, -hK, -ak, -hE, -hA] | with_reducible refine IfB_dec (fun h => ?_) (fun h => ?_) | with_reducible refine Guard_dec (fun h => ?_) (fun h => ?_) | with_reducible refine Guard_ndec (fun h => ?_) (fun h => ?_) | with_reducible refine Guard_not (fun h => ?_) (fun h => ?_) | with_reducible refine IfB_ndec (fun h => ?_) (fun h => ?_) | with_reducible refine IfB_not (fun h => ?_) (fun h => ?_) | with_reducible refine Guard_split (fun h => ?_) (fun h => ?_) | with_reducible refine IfB_split (fun h => ?_) (fun h => ?_))
    refine (ak _).mono ?_
    rintro _ H1 ⟨⟨a, rfl, ha⟩, k1⟩
    rw [if_neg (by decide)] at ha
    subst ha
    clear ak
    have g1 := k1.get (b := H.length + 1) (B := ⟨[.nils, .nils], 0, .full⟩) (by rw [hgetk]; rfl) (by simp)
    have hl1 : H.length + 2 ≤ H1.length := by have := k1.len; simpa using this
    have g1b := get_app g1 [(⟨[.nils, .nils], 0, .full⟩ : Blk)]
    have kF : Keep none H (List.set (H1 ++ [(⟨[.nils, .nils], 0, .full⟩ : Blk)]) (H.length + 1) ⟨[.nils, .nils], 0, .full⟩) := ⟨by simp; omega, fun b hb _ => by rw [List.getElem?_set_ne (by omega), List.getElem?_append_left (by omega), k1.at_ b (by simp; omega) (by simp), List.getElem?_append_left hb]⟩
    repeat' (first | simp only [go_sem, Nat.reduceLT, Nat.reduceEqDiff, Nat.reduceAdd, Nat.reduceMul, Nat.reduceSub, Nat.reduceLeDiff, Int.reduceToNat, Int.reduceNeg, Int.reduceLT, Int.reduceLE, Int.reduceEq, reduceCtorEq, Int.natCast_zero, Int.natCast_one, Int.cast_ofNat_Int, Bool.not_not, false_eq_decide, true_eq_decide, hread0, hreadk, read_cons0, read_consk, astore_h0, astore_hk, hget0, hgetk, hset0, hsetk, hlen, hcat, Nat.add_assoc, Nat.add_zero, Nat.zero_add, List.length_append, and_true, true_and, AV.flat, g1b, get_app g1b, read_get g1b, read_app g1b, astore_get g1b, astore_app g1b, get_set g1b, get_set_app g1b, read_set g1b, read_set_app g1b, astore_set g1b, astore_set_app g1b, List.set_set, hget0s, hgetks, hread0s, hreadks, List.length_set, *, -hK, -k1, -hl1, -kF, -g1] | with_reducible refine IfB_dec (fun h => ?_) (fun h => ?_) | with_reducible refine Guard_dec (fun h => ?_) (fun h => ?_) | with_reducible refine Guard_ndec (fun h => ?_) (fun h => ?_) | with_reducible refine Guard_not (fun h => ?_) (fun h => ?_) | with_reducible refine IfB_ndec (fun h => ?_) (fun h => ?_) | with_reducible refine IfB_not (fun h => ?_) (fun h => ?_) | with_reducible refine Guard_split (fun h => ?_) (fun h => ?_) | with_reducible refine IfB_split (fun h => ?_) (fun h => ?_))
    exact hK _ _ ⟨⟨_, rfl, OwnO.none _ _⟩, kF⟩
  rw [hE] at ak
  rw [if_pos rfl] at ak
  have hm := (askE_ok hE).1
  have hA0 : addE o s = if inO o s = true then 2 else if o.t.length + o.k.length = 256 then 9 else 0 := by unfold addE; rw [if_neg (by rw [hE]; decide)]
  cases hin : inO o s with
  | true =>
    rw [hin, if_pos rfl] at hA0
    rw [hin] at ak
    rw [hA0, show addO o s = ord0 by unfold addO; rw [if_neg (by rw [hA0]; decide)]] at hK
    unfold Ord.av at *
    refine WC_of_body hT Try.func12 rfl (by simp [Try.f12]) (by simp [Try.f12]) (wx_sound hT _ ?_)
    simp only [Try.f12]
    repeat' (first | simp only [go_sem, Nat.reduceLT, Nat.reduceEqDiff, Nat.reduceAdd, Nat.reduceMul, Nat.reduceSub, Nat.reduceLeDiff, Int.reduceToNat, Int.reduceNeg, Int.reduceLT, Int.reduceLE, Int.reduceEq, reduceCtorEq, Int.natCast_zero, Int.natCast_one, Int.cast_ofNat_Int, Bool.not_not, false_eq_decide, true_eq_decide, hread0, hreadk, read_cons0, read_consk, astore_h0, astore_hk, hget0, hgetk, hset0, hsetk, hlen, hcat, Nat.add_assoc, Nat.add_zero, Nat.zero_add, List.length_append, and_true, true_and, AV.flat, *, -hK, -ak, -hE, -hA0, -hm, -hin] | with_reducible refine IfB_dec (fun h => ?_) (fun h => ?_) | with_reducible refine Guard_dec (fun h => ?_) (fun h => ?_) | with_reducible refine Guard_ndec (fun h => ?_) (fun h => ?_) | with_reducible refine Guard_not (fun h => ?_) (fun h => ?_) | with_reducible refine IfB_ndec (fun h => ?_) (fun h => ?_) | with_reducible refine IfB_not (fun h => ?_) (fun h => ?_) | with_reducible refine Guard_split (fun h => ?_) (fun h => ?_) | with_reducible refine IfB_split (fun h => ?_) (fun h => ?_))
    refine (ak _).mono ?_
    rintro _ H1 ⟨⟨a, rfl, ha⟩, k1⟩
    rw [if_pos rfl] at ha
    obtain ⟨vt, vk, rfl, o1, o2, hdis⟩ := ha
    clear ak
    have g1 := k1.get (b := H.length + 1) (B := ⟨[.nils, .nils], 0, .full⟩) (by rw [hgetk]; rfl) (by simp)
    have hl1 : H.length + 2 ≤ H1.length := by have := k1.len; simpa using this
    have hv1 := o1.one
    have hv2 := o2.one
    have g1b := get_app g1 [(⟨[vt, vk], 0, .full⟩ : Blk)]
    have g2b : (H1 ++ [(⟨[vt, vk], 0, .full⟩ : Blk)])[H1.length]? = some ⟨[vt, vk], 0, .full⟩ := by simp
    have kF : Keep none H (List.set (H1 ++ [(⟨[vt, vk], 0, .full⟩ : Blk)]) (H.length + 1) ⟨[.nils, .nils], 0, .full⟩) := ⟨by simp; omega, fun b hb _ => by rw [List.getElem?_set_ne (by omega), List.getElem?_append_left (by omega), k1.at_ b (by simp; omega) (by simp), List.getElem?_append_left hb]⟩
    have e1 := o1.alen (T := T) (by decide) tk22
    have e2 := o2.alen (T := T) (by decide) tk22
    repeat' (first | simp only [go_sem, Nat.reduceLT, Nat.reduceEqDiff, Nat.reduceAdd, Nat.reduceMul, Nat.reduceSub, Nat.reduceLeDiff, Int.reduceToNat, Int.reduceNeg, Int.reduceLT, Int.reduceLE, Int.reduceEq, reduceCtorEq, Int.natCast_zero, Int.natCast_one, Int.cast_ofNat_Int, Bool.not_not, false_eq_decide, true_eq_decide, hread0, hreadk, read_cons0, read_consk, astore_h0, astore_hk, hget0, hgetk, hset0, hsetk, hlen, hcat, Nat.add_assoc, Nat.add_zero, Nat.zero_add, List.length_append, and_true, true_and, AV.flat, g2b, get_app g2b, read_get g2b, read_app g2b, g1b, get_app g1b, read_get g1b, read_app g1b, astore_get g1b, astore_app g1b, get_set g1b, get_set_app g1b, read_set g1b, read_set_app g1b, astore_set g1b, astore_set_app g1b, List.set_set, hget0s, hgetks, hread0s, hreadks, List.length_set, hv1, one_solid hv1, one_cells hv1, hv2, one_solid hv2, one_cells hv2, *, -hK, -k1, -hl1, -kF, -g1, -o1, -o2, -hdis] | with_reducible refine IfB_dec (fun h => ?_) (fun h => ?_) | with_reducible refine Guard_dec (fun h => ?_) (fun h => ?_) | with_reducible refine Guard_ndec (fun h => ?_) (fun h => ?_) | with_reducible refine Guard_not (fun h => ?_) (fun h => ?_) | with_reducible refine IfB_ndec (fun h => ?_) (fun h => ?_) | with_reducible refine IfB_not (fun h => ?_) (fun h => ?_) | with_reducible refine Guard_split (fun h => ?_) (fun h => ?_) | with_reducible refine IfB_split (fun h => ?_) (fun h => ?_))
    exact hK _ _ ⟨⟨_, rfl, OwnO.none _ _⟩, kF⟩
  | false =>
  rw [hin, if_neg (by decide)] at hA0
  rw [hin] at ak
  have w1 : IntKind.i64.wrap ((o.t.length : Int) + o.k.length) = (o.t.length : Int) + o.k.length := by rw [IntKind.wrap_i64]; omega
  have w256 : IntKind.i64.wrap 256 = 256 := by rw [IntKind.wrap_i64]; decide
  by_cases hful : (o.t.length : Int) + o.k.length = 256
  · rw [if_pos (by omega)] at hA0
    rw [hA0, show addO o s = ord0 by unfold addO; rw [if_neg (by rw [hA0]; decide)]] at hK
    unfold Ord.av at *
    refine WC_of_body hT Try.func12 rfl (by simp [Try.f12]) (by simp [Try.f12]) (wx_sound hT _ ?_)
    simp only [Try.f12]
    repeat' (first | simp only [go_sem, Nat.reduceLT, Nat.reduceEqDiff, Nat.reduceAdd, Nat.reduceMul, Nat.reduceSub, Nat.reduceLeDiff, Int.reduceToNat, Int.reduceNeg, Int.reduceLT, Int.reduceLE, Int.reduceEq, reduceCtorEq, Int.natCast_zero, Int.natCast_one, Int.cast_ofNat_Int, Bool.not_not, false_eq_decide, true_eq_decide, hread0, hreadk, read_cons0, read_consk, astore_h0, astore_hk, hget0, hgetk, hset0, hsetk, hlen, hcat, Nat.add_assoc, Nat.add_zero, Nat.zero_add, List.length_append, and_true, true_and, AV.flat, *, -hK, -ak, -hE, -hA0, -hm, -hin] | with_reducible refine IfB_dec (fun h => ?_) (fun h => ?_) | with_reducible refine Guard_dec (fun h => ?_) (fun h => ?_) | with_reducible refine Guard_ndec (fun h => ?_) (fun h => ?_) | with_reducible refine Guard_not (fun h => ?_) (fun h => ?_) | with_reducible refine IfB_ndec (fun h => ?_) (fun h => ?_) | with_reducible refine IfB_not (fun h => ?_) (fun h => ?_) | with_reducible refine Guard_split (fun h => ?_) (fun h => ?_) | with_reducible refine IfB_split (fun h => ?_) (fun h => ?_))
    refine (ak _).mono ?_
    rintro _ H1 ⟨⟨a, rfl, ha⟩, k1⟩
    rw [if_pos rfl] at ha
    obtain ⟨vt, vk, rfl, o1, o2, hdis⟩ := ha
    clear ak
    have g1 := k1.get (b := H.length + 1) (B := ⟨[.nils, .nils], 0, .full⟩) (by rw [hgetk]; rfl) (by simp)
    have hl1 : H.length + 2 ≤ H1.length := by have := k1.len; simpa using this
    have hv1 := o1.one
    have hv2 := o2.one
    have g1b := get_app g1 [(⟨[vt, vk], 0, .full⟩ : Blk)]
    have g2b : (H1 ++ [(⟨[vt, vk], 0, .full⟩ : Blk)])[H1.length]? = some ⟨[vt, vk], 0, .full⟩ := by simp
    have kF : Keep none H (List.set (H1 ++ [(⟨[vt, vk], 0, .full⟩ : Blk)]) (H.length + 1) ⟨[.nils, .nils], 0, .full⟩) := ⟨by simp; omega, fun b hb _ => by rw [List.getElem?_set_ne (by omega), List.getElem?_append_left (by omega), k1.at_ b (by simp; omega) (by simp), List.getElem?_append_left hb]⟩
    have e1 := o1.alen (T := T) (by decide) tk22
    have e2 := o2.alen (T := T) (by decide) tk22
    repeat' (first | simp only [go_sem, Nat.reduceLT, Nat.reduceEqDiff, Nat.reduceAdd, Nat.reduceMul, Nat.reduceSub, Nat.reduceLeDiff, Int.reduceToNat, Int.reduceNeg, Int.reduceLT, Int.reduceLE, Int.reduceEq, reduceCtorEq, Int.natCast_zero, Int.natCast_one, Int.cast_ofNat_Int, Bool.not_not, false_eq_decide, true_eq_decide, hread0, hreadk, read_cons0, read_consk, astore_h0, astore_hk, hget0, hgetk, hset0, hsetk, hlen, hcat, Nat.add_assoc, Nat.add_zero, Nat.zero_add, List.length_append, and_true, true_and, AV.flat, g2b, get_app g2b, read_get g2b, read_app g2b, g1b, get_app g1b, read_get g1b, read_app g1b, astore_get g1b, astore_app g1b, get_set g1b, get_set_app g1b, read_set g1b, read_set_app g1b, astore_set g1b, astore_set_app g1b, List.set_set, hget0s, hgetks, hread0s, hreadks, List.length_set, hv1, one_solid hv1, one_cells hv1, hv2, one_solid hv2, one_cells hv2, *, -hK, -k1, -hl1, -kF, -g1, -o1, -o2, -hdis] | with_reducible refine IfB_dec (fun h => ?_) (fun h => ?_) | with_reducible refine Guard_dec (fun h => ?_) (fun h => ?_) | with_reducible refine Guard_ndec (fun h => ?_) (fun h => ?_) | with_reducible refine Guard_not (fun h => ?_) (fun h => ?_) | with_reducible refine IfB_ndec (fun h => ?_) (fun h => ?_) | with_reducible refine IfB_not (fun h => ?_) (fun h => ?_) | with_reducible refine Guard_split (fun h => ?_) (fun h => ?_) | with_reducible refine IfB_split (fun h => ?_) (fun h => ?_))
    exact hK _ _ ⟨⟨_, rfl, OwnO.none _ _⟩, kF⟩
  rw [if_neg (by omega)] at hA0
  rw [hA0, show addO o s = ⟨s :: o.t, o.k⟩ by unfold addO; rw [if_pos hA0]] at hK
  unfold Ord.av at *
  refine WC_of_body hT Try.func12 rfl (by simp [Try.f12]) (by simp [Try.f12]) (wx_sound hT _ ?_)
  simp only [Try.f12]
  repeat' (first | simp only [go_sem, Nat.reduceLT, Nat.reduceEqDiff, Nat.reduceAdd, Nat.reduceMul, Nat.reduceSub, Nat.reduceLeDiff, Int.reduceToNat, Int.reduceNeg, Int.reduceLT, Int.reduceLE, Int.reduceEq, reduceCtorEq, Int.natCast_zero, Int.natCast_one, Int.cast_ofNat_Int, Bool.not_not, false_eq_decide, true_eq_decide, hread0, hreadk, read_cons0, read_consk, astore_h0, astore_hk, hget0, hgetk, hset0, hsetk, hlen, hcat, Nat.add_assoc, Nat.add_zero, Nat.zero_add, List.length_append, and_true, true_and, AV.flat, *, -hK, -ak, -hE, -hA0, -hm, -hin] | with_reducible refine IfB_dec (fun h => ?_) (fun h => ?_) | with_reducible refine Guard_dec (fun h => ?_) (fun h => ?_) | with_reducible refine Guard_ndec (fun h => ?_) (fun h => ?_) | with_reducible refine Guard_not (fun h => ?_) (fun h => ?_) | with_reducible refine IfB_ndec (fun h => ?_) (fun h => ?_) | with_reducible refine IfB_not (fun h => ?_) (fun h => ?_) | with_reducible refine Guard_split (fun h => ?_) (fun h => ?_) | with_reducible refine IfB_split (fun h => ?_) (fun h => ?_))
  refine (ak _).mono ?_
  rintro _ H1 ⟨⟨a, rfl, ha⟩, k1⟩
  rw [if_pos rfl] at ha
  obtain ⟨vt, vk, rfl, o1, o2, hdis⟩ := ha
  clear ak
  have g1 := k1.get (b := H.length + 1) (B := ⟨[.nils, .nils], 0, .full⟩) (by rw [hgetk]; rfl) (by simp)
  have hl1 : H.length + 2 ≤ H1.length := by have := k1.len; simpa using this
  have hv1 := o1.one
  have hv2 := o2.one
  have hg1b := get_app g1 [(⟨[vt, vk], 0, .full⟩ : Blk)]
  have x : OO none (H.length + 2) (H1 ++ [(⟨[vt, vk], 0, .full⟩ : Blk)]) H1.length o vt vk := ⟨by simp, (Own.mono o1 (by simp)).keep0 (Keep.app _ _ _), (Own.mono o2 (by simp)).keep0 (Keep.app _ _ _), fun e => by have := o1.lt e; omega, fun e => by have := o2.lt e; omega, hdis, by simp; omega, fun b hb => by cases hb⟩
  have kH : ∀ b, b < H.length → (H1 ++ [(⟨[vt, vk], 0, .full⟩ : Blk)])[b]? = H[b]? := fun b hb => by rw [List.getElem?_append_left (by omega), k1.at_ b (by simp; omega) (by simp), List.getElem?_append_left hb]
  have gq := x.bq
  have e1 := x.ot.alen (T := T) (by decide) tk22
  have e2 := x.ok.alen (T := T) (by decide) tk22
  repeat' (first | simp only [go_sem, Nat.reduceLT, Nat.reduceEqDiff, Nat.reduceAdd, Nat.reduceMul, Nat.reduceSub, Nat.reduceLeDiff, Int.reduceToNat, Int.reduceNeg, Int.reduceLT, Int.reduceLE, Int.reduceEq, reduceCtorEq, Int.natCast_zero, Int.natCast_one, Int.cast_ofNat_Int, Bool.not_not, false_eq_decide, true_eq_decide, hread0, hreadk, read_cons0, read_consk, astore_h0, astore_hk, hget0, hgetk, hset0, hsetk, hlen, hcat, Nat.add_assoc, Nat.add_zero, Nat.zero_add, List.length_append, and_true, true_and, AV.flat, hv1, one_solid hv1, one_cells hv1, hv2, one_solid hv2, one_cells hv2, gq, get_app gq, read_get gq, read_app gq, *, -hK, -k1, -hl1, -g1, -o1, -o2, -hdis, -x, -kH, -hg1b] | with_reducible refine IfB_dec (fun h => ?_) (fun h => ?_) | with_reducible refine Guard_dec (fun h => ?_) (fun h => ?_) | with_reducible refine Guard_ndec (fun h => ?_) (fun h => ?_) | with_reducible refine Guard_not (fun h => ?_) (fun h => ?_) | with_reducible refine IfB_ndec (fun h => ?_) (fun h => ?_) | with_reducible refine IfB_not (fun h => ?_) (fun h => ?_) | with_reducible refine Guard_split (fun h => ?_) (fun h => ?_) | with_reducible refine IfB_split (fun h => ?_) (fun h => ?_))
  have x2 : OO none (H.length + 2) (H1 ++ [(⟨[vt, vk], 0, .full⟩ : Blk), (⟨[.str s], 1, .full⟩ : Blk)]) H1.length o vt vk := by have := x.keep (Keep.app none _ [(⟨[.str s], 1, .full⟩ : Blk)]); simpa using this
  have hins := insert_own (H.length + 2) vt o.t s _ (H1.length + 1) (by simp) x2.ot (fun e => by have := o1.lt e; omega) hf1 x2.le
  refine hins.mono ?_
  rintro r G ⟨or_, kr, hrn⟩
  have hro := or_.one
  obtain ⟨y1, y2⟩ := x2.setT kr or_ hrn
  have hq2 := kr.get x2.bq (fun e => x2.tq e)
  have hg2 : G[H.length + 1]? = some (⟨[.nils, .nils], 0, .full⟩ : Blk) := kr.get (get_app g1 _) (fun e => by have := x2.ot.ge e; omega)
  have hg3 : (List.set G H1.length ⟨[r, vk], 0, .full⟩)[H.length + 1]? = some (⟨[.nils, .nils], 0, .full⟩ : Blk) := by rw [List.getElem?_set_ne (by omega)]; exact hg2
  have hq3 := y1.bq
  obtain ⟨z1, z2⟩ := y1.answer (fun b hb => by rw [y2.at_ b (by omega) (by omega), List.getElem?_append_left (by omega)]; exact (k1.at_ b (by simp; omega) (by simp)).trans (List.getElem?_append_left hb))
  repeat' (first | simp only [go_sem, Nat.reduceLT, Nat.reduceEqDiff, Nat.reduceAdd, Nat.reduceMul, Nat.reduceSub, Nat.reduceLeDiff, Int.reduceToNat, Int.reduceNeg, Int.reduceLT, Int.reduceLE, Int.reduceEq, reduceCtorEq, Int.natCast_zero, Int.natCast_one, Int.cast_ofNat_Int, Bool.not_not, false_eq_decide, true_eq_decide, hread0, hreadk, read_cons0, read_consk, astore_h0, astore_hk, hget0, hgetk, hset0, hsetk, hlen, hcat, Nat.add_assoc, Nat.add_zero, Nat.zero_add, List.length_append, and_true, true_and, AV.flat, hv1, one_solid hv1, one_cells hv1, hv2, one_solid hv2, one_cells hv2, hro, one_solid hro, one_cells hro, hq2, get_app hq2, read_get hq2, read_app hq2, hq2, get_app hq2, read_get hq2, read_app hq2, astore_get hq2, astore_app hq2, get_set hq2, get_set_app hq2, read_set hq2, read_set_app hq2, astore_set hq2, astore_set_app hq2, List.set_set, hget0s, hgetks, hread0s, hreadks, List.length_set, hq3, get_app hq3, read_get hq3, read_app hq3, hg3, get_app hg3, read_get hg3, read_app hg3, astore_get hg3, astore_app hg3, get_set hg3, get_set_app hg3, read_set hg3, read_set_app hg3, astore_set hg3, astore_set_app hg3, List.set_set, hget0s, hgetks, hread0s, hreadks, List.length_set, *, -hK, -k1, -hl1, -g1, -o1, -o2, -hdis, -x, -x2, -kH, -hg1b, -hg2, -kr, -or_, -hrn, -y1, -y2, -z1, -z2, -hins, -hE, -hA0, -hm, -hin] | with_reducible refine IfB_dec (fun h => ?_) (fun h => ?_) | with_reducible refine Guard_dec (fun h => ?_) (fun h => ?_) | with_reducible refine Guard_ndec (fun h => ?_) (fun h => ?_) | with_reducible refine Guard_not (fun h => ?_) (fun h => ?_) | with_reducible refine IfB_ndec (fun h => ?_) (fun h => ?_) | with_reducible refine IfB_not (fun h => ?_) (fun h => ?_) | with_reducible refine Guard_split (fun h => ?_) (fun h => ?_) | with_reducible refine IfB_split (fun h => ?_) (fun h => ?_))
  exact hK _ _ ⟨⟨_, rfl, z1⟩, z2⟩
theorem del_own (o : Ord) (hf : o.fit) (s : List UInt8) (H : Heap) : WC Try.prog 17 [o.av, .str s] H fun r H' => (∃ a, r = .tup [a, .int .i64 (hitE o s)] ∧ OwnO H.length H' a (delO o s)) ∧ Keep none H H' := by
  refine WC_of_K fun K hK => ?_
  have ak := fun J => asked_own o hf s J
  have hcases := askE_cases o s
  have hff := hf
  obtain ⟨hf1, hf2⟩ := hf
  rcases hcases with hE | hE | hE
  · have hA : hitE o s = 8 := by unfold hitE; rw [if_pos (by rw [hE]; decide), hE]
    rw [hE] at ak
    rw [hA, show delO o s = ord0 by unfold delO; rw [if_neg (by rw [hA]; decide)]] at hK
    rw [if_neg (by decide)] at ak
    unfold Ord.av at *
    refine WC_of_body hT Try.func17 rfl (by simp [Try.f17]) (by simp [Try.f17]) (wx_sound hT _ ?_)
    simp only [Try.f17]
    repeat' (first | simp only [go_sem, Nat.reduceLT, Nat.reduceEqDiff, Nat.reduceAdd, Nat.reduceMul, Nat.reduceSub, Nat.reduceLeDiff, Int.reduceToNat, Int.reduceNeg, Int.reduceLT, Int.reduceLE, Int.reduceEq, reduceCtorEq, Int.natCast_zero, Int.natCast_one, Int.cast_ofNat_Int, Bool.not_not, false_eq_decide, true_eq_decide, hread0, hreadk, read_cons0, read_consk, astore_h0, astore_hk, hget0, hgetk, hset0, hsetk, hlen, hcat, Nat.add_assoc, Nat.add_zero, Nat.zero_add, List.length_append, and_true, true_and, AV.flat, *, -hK, -ak, -hE, -hA, -hff] | with_reducible refine IfB_dec (fun h => ?_) (fun h => ?_) | with_reducible refine Guard_dec (fun h => ?_) (fun h => ?_) | with_reducible refine Guard_ndec (fun h => ?_) (fun h => ?_) | with_reducible refine Guard_not (fun h => ?_) (fun h => ?_) | with_reducible refine IfB_ndec (fun h => ?_) (fun h => ?_) | with_reducible refine IfB_not (fun h => ?_) (fun h => ?_) | with_reducible refine Guard_split (fun h => ?_) (fun h => ?_) | with_reducible refine IfB_split (fun h => ?_) (fun h => ?_))
    refine (ak _).mono ?_
    rintro _ H1 ⟨⟨a, rfl, ha⟩, k1⟩
    rw [if_neg (by decide)] at ha
    subst ha
    clear ak
    have g1 := k1.get (b := H.length + 1) (B := ⟨[.nils, .nils], 0, .full⟩) (by rw [hgetk]; rfl) (by simp)
    have hl1 : H.length + 2 ≤ H1.length := by have := k1.len; simpa using this
    have g1b := get_app g1 [(⟨[.nils, .nils], 0, .full⟩ : Blk)]
    have kF : Keep none H (List.set (H1 ++ [(⟨[.nils, .nils], 0, .full⟩ : Blk)]) (H.length + 1) ⟨[.nils, .nils], 0, .full⟩) := ⟨by simp; omega, fun b hb _ => by rw [List.getElem?_set_ne (by omega), List.getElem?_append_left (by omega), k1.at_ b (by simp; omega) (by simp), List.getElem?_append_left hb]⟩
    repeat' (first | simp only [go_sem, Nat.reduceLT, Nat.reduceEqDiff, Nat.reduceAdd, Nat.reduceMul, Nat.reduceSub, Nat.reduceLeDiff, Int.reduceToNat, Int.reduceNeg, Int.reduceLT, Int.reduceLE, Int.reduceEq, reduceCtorEq, Int.natCast_zero, Int.natCast_one, Int.cast_ofNat_Int, Bool.not_not, false_eq_decide, true_eq_decide, hread0, hreadk, read_cons0, read_consk, astore_h0, astore_hk, hget0, hgetk, hset0, hsetk, hlen, hcat, Nat.add_assoc, Nat.add_zero, Nat.zero_add, List.length_append, and_true, true_and, AV.flat, g1b, get_app g1b, read_get g1b, read_app g1b, astore_get g1b, astore_app g1b, get_set g1b, get_set_app g1b, read_set g1b, read_set_app g1b, astore_set g1b, astore_set_app g1b, List.set_set, hget0s, hgetks, hread0s, hreadks, List.length_set, *, -hK, -k1, -hl1, -kF, -g1] | with_reducible refine IfB_dec (fun h => ?_) (fun h => ?_) | with_reducible refine Guard_dec (fun h => ?_) (fun h => ?_) | with_reducible refine Guard_ndec (fun h => ?_) (fun h => ?_) | with_reducible refine Guard_not (fun h => ?_) (fun h => ?_) | with_reducible refine IfB_ndec (fun h => ?_) (fun h => ?_) | with_reducible refine IfB_not (fun h => ?_) (fun h => ?_) | with_reducible refine Guard_split (fun h => ?_) (fun h => ?_) | with_reducible refine IfB_split (fun h => ?_) (fun h => ?_))
    exact hK _ _ ⟨⟨_, rfl, OwnO.none _ _⟩, kF⟩
  · have hA : hitE o s = 3 := by unfold hitE; rw [if_pos (by rw [hE]; decide), hE]
    rw [hE] at ak
    rw [hA, show delO o s = ord0 by unfold delO; rw [if_neg (by rw [hA]; decide)]] at hK
    rw [if_neg (by decide)] at ak
    unfold Ord.av at *
    refine WC_of_body hT Try.func17 rfl (by simp [Try.f17]) (by simp [Try.f17]) (wx_sound hT _ ?_)
    simp only [Try.f17]
    repeat' (first | simp only [go_sem, Nat.reduceLT, Nat.reduceEqDiff, Nat.reduceAdd, Nat.reduceMul, Nat.reduceSub, Nat.reduceLeDiff, Int.reduceToNat, Int.reduceNeg, Int.reduceLT, Int.reduceLE, Int.reduceEq, reduceCtorEq, Int.natCast_zero, Int.natCast_one, Int.cast_ofNat_Int, Bool.not_not, false_eq_decide, true_eq_decide, hread0, hreadk, read_cons0, read_consk, astore_h0, astore_hk, hget0, hgetk, hset0, hsetk, hlen, hcat, Nat.add_assoc, Nat.add_zero, Nat.zero_add, List.length_append, and_true, true_and, AV.flat, *, -hK, -ak, -hE, -hA, -hff] | with_reducible refine IfB_dec (fun h => ?_) (fun h => ?_) | with_reducible refine Guard_dec (fun h => ?_) (fun h => ?_) | with_reducible refine Guard_ndec (fun h => ?_) (fun h => ?_) | with_reducible refine Guard_not (fun h => ?_) (fun h => ?_) | with_reducible refine IfB_ndec (fun h => ?_) (fun h => ?_) | with_reducible refine IfB_not (fun h => ?_) (fun h => ?_) | with_reducible refine Guard_split (fun h => ?_) (fun h => ?_) | with_reducible refine IfB_split (fun h => ?_) (fun h => ?_))
    refine (ak _).mono ?_
    rintro _ H1 ⟨⟨a, rfl, ha⟩, k1⟩
    rw [if_neg (by decide)] at ha
    subst ha
    clear ak
    have g1 := k1.get (b := H.length + 1) (B := ⟨[.nils, .nils], 0, .full⟩) (by rw [hgetk]; rfl) (by simp)
    have hl1 : H.length + 2 ≤ H1.length := by have := k1.len; simpa using this
    have g1b := get_app g1 [(⟨[.nils, .nils], 0, .full⟩ : Blk)]
    have kF : Keep none H (List.set (H1 ++ [(⟨[.nils, .nils], 0, .full⟩ : Blk)]) (H.length + 1) ⟨[.nils, .nils], 0, .full⟩) := ⟨by simp; omega, fun b hb _ => by rw [List.getElem?_set_ne (by omega), List.getElem?_append_left (by omega), k1.at_ b (by simp; omega) (by simp), List.getElem?_append_left hb]⟩
    repeat' (first | simp only [go_sem, Nat.reduceLT, Nat.reduceEqDiff, Nat.reduceAdd, Nat.reduceMul, Nat.reduceSub, Nat.reduceLeDiff, Int.reduceToNat, Int.reduceNeg, Int.reduceLT, Int.reduceLE, Int.reduceEq, reduceCtorEq, Int.natCast_zero, Int.natCast_one, Int.cast_ofNat_Int, Bool.not_not, false_eq_decide, true_eq_decide, hread0, hreadk, read_cons0, read_consk, astore_h0, astore_hk, hget0, hgetk, hset0, hsetk, hlen, hcat, Nat.add_assoc, Nat.add_zero, Nat.zero_add, List.length_append, and_true, true_and, AV.flat, g1b, get_app g1b, read_get g1b, read_app g1b, astore_get g1b, astore_app g1b, get_set g1b, get_set_app g1b, read_set g1b, read_set_app g1b, astore_set g1b, astore_set_app g1b, List.set_set, hget0s, hgetks, hread0s, hreadks, List.length_set, *, -hK, -k1, -hl1, -kF, -g1] | with_reducible refine IfB_dec (fun h => ?_) (fun h => ?_) | with_reducible refine Guard_dec (fun h => ?_) (fun h => ?_) | with_reducible refine Guard_ndec (fun h => ?_) (fun h => ?_) | with_reducible refine Guard_not (fun h => ?_) (fun h => ?_) | with_reducible refine IfB_ndec (fun h => ?_) (fun h => ?_) | with_reducible refine IfB_not (fun h => ?_) (fun h => ?_) | with_reducible refine Guard_split (fun h => ?_) (fun h => ?_) | with_reducible refine IfB_split (fun h => ?_) (fun h => ?_))
    exact hK _ _ ⟨⟨_, rfl, OwnO.none _ _⟩, kF⟩
  rw [hE] at ak
  rw [if_pos rfl] at ak
  have hm := (askE_ok hE).1
  have hm1 := hm.1
  have hA0 : hitE o s = if inO o s = true then 0 else 6 := by unfold hitE; rw [if_neg (by rw [hE]; decide)]
  cases hin : inO o s with
  | false =>
    rw [hin, if_neg (by decide)] at hA0
    rw [hin] at ak
    rw [hA0, show delO o s = ord0 by unfold delO; rw [if_neg (by rw [hA0]; decide)]] at hK
    unfold Ord.av at *
    refine WC_of_body hT Try.func17 rfl (by simp [Try.f17]) (by simp [Try.f17]) (wx_sound hT _ ?_)
    simp only [Try.f17]
    repeat' (first | simp only [go_sem, Nat.reduceLT, Nat.reduceEqDiff, Nat.reduceAdd, Nat.reduceMul, Nat.reduceSub, Nat.reduceLeDiff, Int.reduceToNat, Int.reduceNeg, Int.reduceLT, Int.reduceLE, Int.reduceEq, reduceCtorEq, Int.natCast_zero, Int.natCast_one, Int.cast_ofNat_Int, Bool.not_not, false_eq_decide, true_eq_decide, hread0, hreadk, read_cons0, read_consk, astore_h0, astore_hk, hget0, hgetk, hset0, hsetk, hlen, hcat, Nat.add_assoc, Nat.add_zero, Nat.zero_add, List.length_append, and_true, true_and, AV.flat, *, -hK, -ak, -hE, -hA0, -hm, -hin, -hff, -hm1] | with_reducible refine IfB_dec (fun h => ?_) (fun h => ?_) | with_reducible refine Guard_dec (fun h => ?_) (fun h => ?_) | with_reducible refine Guard_ndec (fun h => ?_) (fun h => ?_) | with_reducible refine Guard_not (fun h => ?_) (fun h => ?_) | with_reducible refine IfB_ndec (fun h => ?_) (fun h => ?_) | with_reducible refine IfB_not (fun h => ?_) (fun h => ?_) | with_reducible refine Guard_split (fun h => ?_) (fun h => ?_) | with_reducible refine IfB_split (fun h => ?_) (fun h => ?_))
    refine (ak _).mono ?_
    rintro _ H1 ⟨⟨a, rfl, ha⟩, k1⟩
    rw [if_pos rfl] at ha
    obtain ⟨vt, vk, rfl, o1, o2, hdis⟩ := ha
    clear ak
    have g1 := k1.get (b := H.length + 1) (B := ⟨[.nils, .nils], 0, .full⟩) (by rw [hgetk]; rfl) (by simp)
    have hl1 : H.length + 2 ≤ H1.length := by have := k1.len; simpa using this
    have hv1 := o1.one
    have hv2 := o2.one
    have g1b := get_app g1 [(⟨[vt, vk], 0, .full⟩ : Blk)]
    have g2b : (H1 ++ [(⟨[vt, vk], 0, .full⟩ : Blk)])[H1.length]? = some ⟨[vt, vk], 0, .full⟩ := by simp
    have kF : Keep none H (List.set (H1 ++ [(⟨[vt, vk], 0, .full⟩ : Blk)]) (H.length + 1) ⟨[.nils, .nils], 0, .full⟩) := ⟨by simp; omega, fun b hb _ => by rw [List.getElem?_set_ne (by omega), List.getElem?_append_left (by omega), k1.at_ b (by simp; omega) (by simp), List.getElem?_append_left hb]⟩
    have e1 := o1.alen (T := T) (by decide) tk22
    have e2 := o2.alen (T := T) (by decide) tk22
    repeat' (first | simp only [go_sem, Nat.reduceLT, Nat.reduceEqDiff, Nat.reduceAdd, Nat.reduceMul, Nat.reduceSub, Nat.reduceLeDiff, Int.reduceToNat, Int.reduceNeg, Int.reduceLT, Int.reduceLE, Int.reduceEq, reduceCtorEq, Int.natCast_zero, Int.natCast_one, Int.cast_ofNat_Int, Bool.not_not, false_eq_decide, true_eq_decide, hread0, hreadk, read_cons0, read_consk, astore_h0, astore_hk, hget0, hgetk, hset0, hsetk, hlen, hcat, Nat.add_assoc, Nat.add_zero, Nat.zero_add, List.length_append, and_true, true_and, AV.flat, g2b, get_app g2b, read_get g2b, read_app g2b, g1b, get_app g1b, read_get g1b, read_app g1b, astore_get g1b, astore_app g1b, get_set g1b, get_set_app g1b, read_set g1b, read_set_app g1b, astore_set g1b, astore_set_app g1b, List.set_set, hget0s, hgetks, hread0s, hreadks, List.length_set, hv1, one_solid hv1, one_cells hv1, hv2, one_solid hv2, one_cells hv2, *, -hK, -k1, -hl1, -kF, -g1, -o1, -o2, -hdis] | with_reducible refine IfB_dec (fun h => ?_) (fun h => ?_) | with_reducible refine Guard_dec (fun h => ?_) (fun h => ?_) | with_reducible refine Guard_ndec (fun h => ?_) (fun h => ?_) | with_reducible refine Guard_not (fun h => ?_) (fun h => ?_) | with_reducible refine IfB_ndec (fun h => ?_) (fun h => ?_) | with_reducible refine IfB_not (fun h => ?_) (fun h => ?_) | with_reducible refine Guard_split (fun h => ?_) (fun h => ?_) | with_reducible refine IfB_split (fun h => ?_) (fun h => ?_))
    exact hK _ _ ⟨⟨_, rfl, OwnO.none _ _⟩, kF⟩
  | true =>
  rw [hin, if_pos rfl] at hA0
  rw [hin] at ak
  rw [hA0, show delO o s = levelO (takeO o s) by unfold delO; rw [if_pos hA0]] at hK
  unfold Ord.av at *
  refine WC_of_body hT Try.func17 rfl (by simp [Try.f17]) (by simp [Try.f17]) (wx_sound hT _ ?_)
  simp only [Try.f17]
  repeat' (first | simp only [go_sem, Nat.reduceLT, Nat.reduceEqDiff, Nat.reduceAdd, Nat.reduceMul, Nat.reduceSub, Nat.reduceLeDiff, Int.reduceToNat, Int.reduceNeg, Int.reduceLT, Int.reduceLE, Int.reduceEq, reduceCtorEq, Int.natCast_zero, Int.natCast_one, Int.cast_ofNat_Int, Bool.not_not, false_eq_decide, true_eq_decide, hread0, hreadk, read_cons0, read_consk, astore_h0, astore_hk, hget0, hgetk, hset0, hsetk, hlen, hcat, Nat.add_assoc, Nat.add_zero, Nat.zero_add, List.length_append, and_true, true_and, AV.flat, *, -hK, -ak, -hE, -hA0, -hm, -hin, -hff, -hm1] | with_reducible refine IfB_dec (fun h => ?_) (fun h => ?_) | with_reducible refine Guard_dec (fun h => ?_) (fun h => ?_) | with_reducible refine Guard_ndec (fun h => ?_) (fun h => ?_) | with_reducible refine Guard_not (fun h => ?_) (fun h => ?_) | with_reducible refine IfB_ndec (fun h => ?_) (fun h => ?_) | with_reducible refine IfB_not (fun h => ?_) (fun h => ?_) | with_reducible refine Guard_split (fun h => ?_) (fun h => ?_) | with_reducible refine IfB_split (fun h => ?_) (fun h => ?_))
  refine (ak _).mono ?_
  rintro _ H1 ⟨⟨a, rfl, ha⟩, k1⟩
  rw [if_pos rfl] at ha
  obtain ⟨vt, vk, rfl, o1, o2, hdis⟩ := ha
  clear ak
  have g1 := k1.get (b := H.length + 1) (B := ⟨[.nils, .nils], 0, .full⟩) (by rw [hgetk]; rfl) (by simp)
  have hl1 : H.length + 2 ≤ H1.length := by have := k1.len; simpa using this
  have hv1 := o1.one
  have hv2 := o2.one
  have hg1b := get_app g1 [(⟨[vt, vk], 0, .full⟩ : Blk)]
  have x : OO none (H.length + 2) (H1 ++ [(⟨[vt, vk], 0, .full⟩ : Blk)]) H1.length o vt vk := ⟨by simp, (Own.mono o1 (by simp)).keep0 (Keep.app _ _ _), (Own.mono o2 (by simp)).keep0 (Keep.app _ _ _), fun e => by have := o1.lt e; omega, fun e => by have := o2.lt e; omega, hdis, by simp; omega, fun b hb => by cases hb⟩
  have kH : ∀ b, b < H.length → (H1 ++ [(⟨[vt, vk], 0, .full⟩ : Blk)])[b]? = H[b]? := fun b hb => by rw [List.getElem?_append_left (by omega), k1.at_ b (by simp; omega) (by simp), List.getElem?_append_left hb]
  have gq := x.bq
  have e1 := x.ot.alen (T := T) (by decide) tk22
  have e2 := x.ok.alen (T := T) (by decide) tk22
  repeat' (first | simp only [go_sem, Nat.reduceLT, Nat.reduceEqDiff, Nat.reduceAdd, Nat.reduceMul, Nat.reduceSub, Nat.reduceLeDiff, Int.reduceToNat, Int.reduceNeg, Int.reduceLT, Int.reduceLE, Int.reduceEq, reduceCtorEq, Int.natCast_zero, Int.natCast_one, Int.cast_ofNat_Int, Bool.not_not, false_eq_decide, true_eq_decide, hread0, hreadk, read_cons0, read_consk, astore_h0, astore_hk, hget0, hgetk, hset0, hsetk, hlen, hcat, Nat.add_assoc, Nat.add_zero, Nat.zero_add, List.length_append, and_true, true_and, AV.flat, hv1, one_solid hv1, one_cells hv1, hv2, one_solid hv2, one_cells hv2, gq, get_app gq, read_get gq, read_app gq, *, -hK, -k1, -hl1, -g1, -o1, -o2, -hdis, -x, -kH, -hg1b, -hff, -hm1] | with_reducible refine IfB_dec (fun h => ?_) (fun h => ?_) | with_reducible refine Guard_dec (fun h => ?_) (fun h => ?_) | with_reducible refine Guard_ndec (fun h => ?_) (fun h => ?_) | with_reducible refine Guard_not (fun h => ?_) (fun h => ?_) | with_reducible refine IfB_ndec (fun h => ?_) (fun h => ?_) | with_reducible refine IfB_not (fun h => ?_) (fun h => ?_) | with_reducible refine Guard_split (fun h => ?_) (fun h => ?_) | with_reducible refine IfB_split (fun h => ?_) (fun h => ?_))
  obtain ⟨tl1, tl2⟩ := takeO_len o s
  refine (take_own x hff s).mono ?_
  rintro _ J1 ⟨rfl, ⟨v1, v2, x1⟩, l1⟩
  generalize hto : takeO o s = o1 at *
  repeat' (first | simp only [go_sem, Nat.reduceLT, Nat.reduceEqDiff, Nat.reduceAdd, Nat.reduceMul, Nat.reduceSub, Nat.reduceLeDiff, Int.reduceToNat, Int.reduceNeg, Int.reduceLT, Int.reduceLE, Int.reduceEq, reduceCtorEq, Int.natCast_zero, Int.natCast_one, Int.cast_ofNat_Int, Bool.not_not, false_eq_decide, true_eq_decide, hread0, hreadk, read_cons0, read_consk, astore_h0, astore_hk, hget0, hgetk, hset0, hsetk, hlen, hcat, Nat.add_assoc, Nat.add_zero, Nat.zero_add, List.length_append, and_true, true_and, AV.flat, *, -hK, -k1, -hl1, -g1, -o1, -o2, -hdis, -x, -kH, -hg1b, -x1, -l1, -hto, -tl1, -tl2, -hff, -hm1, -hE, -hA0, -hm, -hin] | with_reducible refine IfB_dec (fun h => ?_) (fun h => ?_) | with_reducible refine Guard_dec (fun h => ?_) (fun h => ?_) | with_reducible refine Guard_ndec (fun h => ?_) (fun h => ?_) | with_reducible refine Guard_not (fun h => ?_) (fun h => ?_) | with_reducible refine IfB_ndec (fun h => ?_) (fun h => ?_) | with_reducible refine IfB_not (fun h => ?_) (fun h => ?_) | with_reducible refine Guard_split (fun h => ?_) (fun h => ?_) | with_reducible refine IfB_split (fun h => ?_) (fun h => ?_))
  have hg2 : J1[H.length + 1]? = some (⟨[.nils, .nils], 0, .full⟩ : Blk) := by rw [l1.at_ _ (by omega) (by omega)]; exact hg1b
  have hkH2 : ∀ b, b < H.length → J1[b]? = H[b]? := fun b hb => by rw [l1.at_ b (by omega) (by omega)]; exact kH b hb
  have hfit1 : o1.fit := ⟨by omega, by omega⟩
  refine (level_own x1 hfit1 (by omega)).mono ?_
  rintro _ J2 ⟨rfl, ⟨v3, v4, x3⟩, l3⟩
  have hv3 := x3.ot.one
  have hv4 := x3.ok.one
  have hq3 := x3.bq
  have hg3 : J2[H.length + 1]? = some (⟨[.nils, .nils], 0, .full⟩ : Blk) := by rw [l3.at_ _ (by omega) (by omega)]; exact hg2
  obtain ⟨z1, z2⟩ := x3.answer (fun b hb => by rw [l3.at_ b (by omega) (by omega)]; exact hkH2 b hb)
  repeat' (first | simp only [go_sem, Nat.reduceLT, Nat.reduceEqDiff, Nat.reduceAdd, Nat.reduceMul, Nat.reduceSub, Nat.reduceLeDiff, Int.reduceToNat, Int.reduceNeg, Int.reduceLT, Int.reduceLE, Int.reduceEq, reduceCtorEq, Int.natCast_zero, Int.natCast_one, Int.cast_ofNat_Int, Bool.not_not, false_eq_decide, true_eq_decide, hread0, hreadk, read_cons0, read_consk, astore_h0, astore_hk, hget0, hgetk, hset0, hsetk, hlen, hcat, Nat.add_assoc, Nat.add_zero, Nat.zero_add, List.length_append, and_true, true_and, AV.flat, hv3, one_solid hv3, one_cells hv3, hv4, one_solid hv4, one_cells hv4, hq3, get_app hq3, read_get hq3, read_app hq3, hg3, get_app hg3, read_get hg3, read_app hg3, astore_get hg3, astore_app hg3, get_set hg3, get_set_app hg3, read_set hg3, read_set_app hg3, astore_set hg3, astore_set_app hg3, List.set_set, hget0s, hgetks, hread0s, hreadks, List.length_set, *, -hK, -k1, -hl1, -g1, -o1, -o2, -hdis, -x, -kH, -hg1b, -x1, -l1, -hto, -tl1, -tl2, -hff, -hm1, -hE, -hA0, -hm, -hin, -x3, -l3, -z1, -z2, -hg2, -hkH2, -hfit1] | with_reducible refine IfB_dec (fun h => ?_) (fun h => ?_) | with_reducible refine Guard_dec (fun h => ?_) (fun h => ?_) | with_reducible refine Guard_ndec (fun h => ?_) (fun h => ?_) | with_reducible refine Guard_not (fun h => ?_) (fun h => ?_) | with_reducible refine IfB_ndec (fun h => ?_) (fun h => ?_) | with_reducible refine IfB_not (fun h => ?_) (fun h => ?_) | with_reducible refine Guard_split (fun h => ?_) (fun h => ?_) | with_reducible refine IfB_split (fun h => ?_) (fun h => ?_))
  exact hK _ _ ⟨⟨_, rfl, z1⟩, z2⟩
theorem hit_own (o : Ord) (hf : o.fit) (s : List UInt8) (H : Heap) : WC Try.prog 15 [o.av, .str s] H fun r H' => (∃ a, r = .tup [a, .int .i64 (hitE o s)] ∧ OwnO H.length H' a (hitO o s)) ∧ Keep none H H' := by
  refine WC_of_K fun K hK => ?_
  have ak := fun J => asked_own o hf s J
  have hcases := askE_cases o s
  have hff := hf
  obtain ⟨hf1, hf2⟩ := hf
  rcases hcases with hE | hE | hE
  · have hA : hitE o s = 8 := by unfold hitE; rw [if_pos (by rw [hE]; decide), hE]
    rw [hE] at ak
    rw [hA, show hitO o s = ord0 by unfold hitO; rw [if_neg (by rw [hA]; decide)]] at hK
    rw [if_neg (by decide)] at ak
    unfold Ord.av at *
    refine WC_of_body hT Try.func15 rfl (by simp [Try.f15]) (by simp [Try.f15]) (wx_sound hT _ ?_)
    simp only [Try.f15]
    repeat' (first | simp only [go_sem, Nat.reduceLT, Nat.reduceEqDiff, Nat.reduceAdd, Nat.reduceMul, Nat.reduceSub, Nat.reduceLeDiff, Int.reduceToNat, Int.reduceNeg, Int.reduceLT, Int.reduceLE, Int.reduceEq, reduceCtorEq, Int.natCast_zero, Int.natCast_one, Int.cast_ofNat_Int, Bool.not_not, false_eq_decide, true_eq_decide, hread0, hreadk, read_cons0, read_consk, astore_h0, astore_hk, hget0, hgetk, hset0, hsetk, hlen, hcat, Nat.add_assoc, Nat.add_zero, Nat.zero_add, List.length_append, and_true, true_and, AV.flat, *, -hK, -ak, -hE, -hA, -hff] | with_reducible refine IfB_dec (fun h => ?_) (fun h => ?_) | with_reducible refine Guard_dec (fun h => ?_) (fun h => ?_) | with_reducible refine Guard_ndec (fun h => ?_) (fun h => ?_) | with_reducible refine Guard_not (fun h => ?_) (fun h => ?_) | with_reducible refine IfB_ndec (fun h => ?_) (fun h => ?_) | with_reducible refine IfB_not (fun h => ?_) (fun h => ?_) | with_reducible refine Guard_split (fun h => ?_) (fun h => ?_) | with_reducible refine IfB_split (fun h => ?_) (fun h => ?_))
    refine (ak _).mono ?_
    rintro _ H1 ⟨⟨a, rfl, ha⟩, k1⟩
    rw [if_neg (by decide)] at ha
    subst ha
    clear ak
    have g1 := k1.get (b := H.length + 1) (B := ⟨[.nils, .nils], 0, .full⟩) (by rw [hgetk]; rfl) (by simp)
    have hl1 : H.length + 2 ≤ H1.length := by have := k1.len; simpa using this
    have g1b := get_app g1 [(⟨[.nils, .nils], 0, .full⟩ : Blk)]
    have kF : Keep none H (List.set (H1 ++ [(⟨[.nils, .nils], 0, .full⟩ : Blk)]) (H.length + 1) ⟨[.nils, .nils], 0, .full⟩) := ⟨by simp; omega, fun b hb _ => by rw [List.getElem?_set_ne (by omega), List.getElem?_append_left (by omega), k1.at_ b (by simp; omega) (by simp), List.getElem?_append_left hb]⟩
    repeat' (first | simp only [go_sem, Nat.reduceLT, Nat.reduceEqDiff, Nat.reduceAdd, Nat.reduceMul, Nat.reduceSub, Nat.reduceLeDiff, Int.reduceToNat, Int.reduceNeg, Int.reduceLT, Int.reduceLE, Int.reduceEq, reduceCtorEq, Int.natCast_zero, Int.natCast_one, Int.cast_ofNat_Int, Bool.not_not, false_eq_decide, true_eq_decide, hread0, hreadk, read_cons0, read_consk, astore_h0, astore_hk, hget0, hgetk, hset0, hsetk, hlen, hcat, Nat.add_assoc, Nat.add_zero, Nat.zero_add, List.length_append, and_true, true_and, AV.flat, g1b, get_app g1b, read_get g1b, read_app g1b, astore_get g1b, astore_app g1b, get_set g1b, get_set_app g1b, read_set g1b, read_set_app g1b, astore_set g1b, astore_set_app g1b, List.set_set, hget0s, hgetks, hread0s, hreadks, List.length_set, *, -hK, -k1, -hl1, -kF, -g1] | with_reducible refine IfB_dec (fun h => ?_) (fun h => ?_) | with_reducible refine Guard_dec (fun h => ?_) (fun h => ?_) | with_reducible refine Guard_ndec (fun h => ?_) (fun h => ?_) | with_reducible refine Guard_not (fun h => ?_) (fun h => ?_) | with_reducible refine IfB_ndec (fun h => ?_) (fun h => ?_) | with_reducible refine IfB_not (fun h => ?_) (fun h => ?_) | with_reducible refine Guard_split (fun h => ?_) (fun h => ?_) | with_reducible refine IfB_split (fun h => ?_) (fun h => ?_))
    exact hK _ _ ⟨⟨_, rfl, OwnO.none _ _⟩, kF⟩
  · have hA : hitE o s = 3 := by unfold hitE; rw [if_pos (by rw [hE]; decide), hE]
    rw [hE] at ak
    rw [hA, show hitO o s = ord0 by unfold hitO; rw [if_neg (by rw [hA]; decide)]] at hK
    rw [if_neg (by decide)] at ak
    unfold Ord.av at *
    refine WC_of_body hT Try.func15 rfl (by simp [Try.f15]) (by simp [Try.f15]) (wx_sound hT _ ?_)
    simp only [Try.f15]
    repeat' (first | simp only [go_sem, Nat.reduceLT, Nat.reduceEqDiff, Nat.reduceAdd, Nat.reduceMul, Nat.reduceSub, Nat.reduceLeDiff, Int.reduceToNat, Int.reduceNeg, Int.reduceLT, Int.reduceLE, Int.reduceEq, reduceCtorEq, Int.natCast_zero, Int.natCast_one, Int.cast_ofNat_Int, Bool.not_not, false_eq_decide, true_eq_decide, hread0, hreadk, read_cons0, read_consk, astore_h0, astore_hk, hget0, hgetk, hset0, hsetk, hlen, hcat, Nat.add_assoc, Nat.add_zero, Nat.zero_add, List.length_append, and_true, true_and, AV.flat, *, -hK, -ak, -hE, -hA, -hff] | with_reducible refine IfB_dec (fun h => ?_) (fun h => ?_) | with_reducible refine Guard_dec (fun h => ?_) (fun h => ?_) | with_reducible refine Guard_ndec (fun h => ?_) (fun h => ?_) | with_reducible refine Guard_not (fun h => ?_) (fun h => ?_) | with_reducible refine IfB_ndec (fun h => ?_) (fun h => ?_) | with_reducible refine IfB_not (fun h => ?_) (fun h => ?_) | with_reducible refine Guard_split (fun h => ?_) (fun h => ?_) | with_reducible refine IfB_split (fun h => ?_) (fun h => ?_))
    refine (ak _).mono ?_
    rintro _ H1 ⟨⟨a, rfl, ha⟩, k1⟩
    rw [if_neg (by decide)] at ha
    subst ha
    clear ak
    have g1 := k1.get (b := H.length + 1) (B := ⟨[.nils, .nils], 0, .full⟩) (by rw [hgetk]; rfl) (by simp)
    have hl1 : H.length + 2 ≤ H1.length := by have := k1.len; simpa using this
    have g1b := get_app g1 [(⟨[.nils, .nils], 0, .full⟩ : Blk)]
    have kF : Keep none H (List.set (H1 ++ [(⟨[.nils, .nils], 0, .full⟩ : Blk)]) (H.length + 1) ⟨[.nils, .nils], 0, .full⟩) := ⟨by simp; omega, fun b hb _ => by rw [List.getElem?_set_ne (by omega), List.getElem?_append_left (by omega), k1.at_ b (by simp; omega) (by simp), List.getElem?_append_left hb]⟩
    repeat' (first | simp only [go_sem, Nat.reduceLT, Nat.reduceEqDiff, Nat.reduceAdd, Nat.reduceMul, Nat.reduceSub, Nat.reduceLeDiff, Int.reduceToNat, Int.reduceNeg, Int.reduceLT, Int.reduceLE, Int.reduceEq, reduceCtorEq, Int.natCast_zero, Int.natCast_one, Int.cast_ofNat_Int, Bool.not_not, false_eq_decide, true_eq_decide, hread0, hreadk, read_cons0, read_consk, astore_h0, astore_hk, hget0, hgetk, hset0, hsetk, hlen, hcat, Nat.add_assoc, Nat.add_zero, Nat.zero_add, List.length_append, and_true, true_and, AV.flat, g1b, get_app g1b, read_get g1b, read_app g1b, astore_get g1b, astore_app g1b, get_set g1b, get_set_app g1b, read_set g1b, read_set_app g1b, astore_set g1b, astore_set_app g1b, List.set_set, hget0s, hgetks, hread0s, hreadks, List.length_set, *, -hK, -k1, -hl1, -kF, -g1] | with_reducible refine IfB_dec (fun h => ?_) (fun h => ?_) | with_reducible refine Guard_dec (fun h => ?_) (fun h => ?_) | with_reducible refine Guard_ndec (fun h => ?_) (fun h => ?_) | with_reducible refine Guard_not (fun h => ?_) (fun h => ?_) | with_reducible refine IfB_ndec (fun h => ?_) (fun h => ?_) | with_reducible refine IfB_not (fun h => ?_) (fun h => ?_) | with_reducible refine Guard_split (fun h => ?_) (fun h => ?_) | with_reducible refine IfB_split (fun h => ?_) (fun h => ?_))
    exact hK _ _ ⟨⟨_, rfl, OwnO.none _ _⟩, kF⟩
  rw [hE] at ak
  rw [if_pos rfl] at ak
  have hm := (askE_ok hE).1
  have hm1 := hm.1
  have hA0 : hitE o s = if inO o s = true then 0 else 6 := by unfold hitE; rw [if_neg (by rw [hE]; decide)]
  cases hin : inO o s with
  | false =>
    rw [hin, if_neg (by decide)] at hA0
    rw [hin] at ak
    rw [hA0, show hitO o s = ord0 by unfold hitO; rw [if_neg (by rw [hA0]; decide)]] at hK
    unfold Ord.av at *
    refine WC_of_body hT Try.func15 rfl (by simp [Try.f15]) (by simp [Try.f15]) (wx_sound hT _ ?_)
    simp only [Try.f15]
    repeat' (first | simp only [go_sem, Nat.reduceLT, Nat.reduceEqDiff, Nat.reduceAdd, Nat.reduceMul, Nat.reduceSub, Nat.reduceLeDiff, Int.reduceToNat, Int.reduceNeg, Int.reduceLT, Int.reduceLE, Int.reduceEq, reduceCtorEq, Int.natCast_zero, Int.natCast_one, Int.cast_ofNat_Int, Bool.not_not, false_eq_decide, true_eq_decide, hread0, hreadk, read_cons0, read_consk, astore_h0, astore_hk, hget0, hgetk, hset0, hsetk, hlen, hcat, Nat.add_assoc, Nat.add_zero, Nat.zero_add, List.length_append, and_true, true_and, AV.flat, *, -hK, -ak, -hE, -hA0, -hm, -hin, -hff, -hm1] | with_reducible refine IfB_dec (fun h => ?_) (fun h => ?_) | with_reducible refine Guard_dec (fun h => ?_) (fun h => ?_) | with_reducible refine Guard_ndec (fun h => ?_) (fun h => ?_) | with_reducible refine Guard_not (fun h => ?_) (fun h => ?_) | with_reducible refine IfB_ndec (fun h => ?_) (fun h => ?_) | with_reducible refine IfB_not (fun h => ?_) (fun h => ?_) | with_reducible refine Guard_split (fun h => ?_) (fun h => ?_) | with_reducible refine IfB_split (fun h => ?_) (fun h => ?_))
    refine (ak _).mono ?_
    rintro _ H1 ⟨⟨a, rfl, ha⟩, k1⟩
    rw [if_pos rfl] at ha
    obtain ⟨vt, vk, rfl, o1, o2, hdis⟩ := ha
    clear ak
    have g1 := k1.get (b := H.length + 1) (B := ⟨[.nils, .nils], 0, .full⟩) (by rw [hgetk]; rfl) (by simp)
    have hl1 : H.length + 2 ≤ H1.length := by have := k1.len; simpa using this
    have hv1 := o1.one
    have hv2 := o2.one
    have g1b := get_app g1 [(⟨[vt, vk], 0, .full⟩ : Blk)]
    have g2b : (H1 ++ [(⟨[vt, vk], 0, .full⟩ : Blk)])[H1.length]? = some ⟨[vt, vk], 0, .full⟩ := by simp
    have kF : Keep none H (List.set (H1 ++ [(⟨[vt, vk], 0, .full⟩ : Blk)]) (H.length + 1) ⟨[.nils, .nils], 0, .full⟩) := ⟨by simp; omega, fun b hb _ => by rw [List.getElem?_set_ne (by omega), List.getElem?_append_left (by omega), k1.at_ b (by simp; omega) (by simp), List.getElem?_append_left hb]⟩
    have e1 := o1.alen (T := T) (by decide) tk22
    have e2 := o2.alen (T := T) (by decide) tk22
    repeat' (first | simp only [go_sem, Nat.reduceLT, Nat.reduceEqDiff, Nat.reduceAdd, Nat.reduceMul, Nat.reduceSub, Nat.reduceLeDiff, Int.reduceToNat, Int.reduceNeg, Int.reduceLT, Int.reduceLE, Int.reduceEq, reduceCtorEq, Int.natCast_zero, Int.natCast_one, Int.cast_ofNat_Int, Bool.not_not, false_eq_decide, true_eq_decide, hread0, hreadk, read_cons0, read_consk, astore_h0, astore_hk, hget0, hgetk, hset0, hsetk, hlen, hcat, Nat.add_assoc, Nat.add_zero, Nat.zero_add, List.length_append, and_true, true_and, AV.flat, g2b, get_app g2b, read_get g2b, read_app g2b, g1b, get_app g1b, read_get g1b, read_app g1b, astore_get g1b, astore_app g1b, get_set g1b, get_set_app g1b, read_set g1b, read_set_app g1b, astore_set g1b, astore_set_app g1b, List.set_set, hget0s, hgetks, hread0s, hreadks, List.length_set, hv1, one_solid hv1, one_cells hv1, hv2, one_solid hv2, one_cells hv2, *, -hK, -k1, -hl1, -kF, -g1, -o1, -o2, -hdis] | with_reducible refine IfB_dec (fun h => ?_) (fun h => ?_) | with_reducible refine Guard_dec (fun h => ?_) (fun h => ?_) | with_reducible refine Guard_ndec (fun h => ?_) (fun h => ?_) | with_reducible refine Guard_not (fun h => ?_) (fun h => ?_) | with_reducible refine IfB_ndec (fun h => ?_) (fun h => ?_) | with_reducible refine IfB_not (fun h => ?_) (fun h => ?_) | with_reducible refine Guard_split (fun h => ?_) (fun h => ?_) | with_reducible refine IfB_split (fun h => ?_) (fun h => ?_))
    exact hK _ _ ⟨⟨_, rfl, OwnO.none _ _⟩, kF⟩
  | true =>
  rw [hin, if_pos rfl] at hA0
  rw [hin] at ak
  rw [hA0, show hitO o s = levelO ⟨(takeO o s).t, s :: (takeO o s).k⟩ by unfold hitO; rw [if_pos hA0]] at hK
  unfold Ord.av at *
  refine WC_of_body hT Try.func15 rfl (by simp [Try.f15]) (by simp [Try.f15]) (wx_sound hT _ ?_)
  simp only [Try.f15]
  repeat' (first | simp only [go_sem, Nat.reduceLT, Nat.reduceEqDiff, Nat.reduceAdd, Nat.reduceMul, Nat.reduceSub, Nat.reduceLeDiff, Int.reduceToNat, Int.reduceNeg, Int.reduceLT, Int.reduceLE, Int.reduceEq, reduceCtorEq, Int.natCast_zero, Int.natCast_one, Int.cast_ofNat_Int, Bool.not_not, false_eq_decide, true_eq_decide, hread0, hreadk, read_cons0, read_consk, astore_h0, astore_hk, hget0, hgetk, hset0, hsetk, hlen, hcat, Nat.add_assoc, Nat.add_zero, Nat.zero_add, List.length_append, and_true, true_and, AV.flat, *, -hK, -ak, -hE, -hA0, -hm, -hin, -hff, -hm1] | with_reducible refine IfB_dec (fun h => ?_) (fun h => ?_) | with_reducible refine Guard_dec (fun h => ?_) (fun h => ?_) | with_reducible refine Guard_ndec (fun h => ?_) (fun h => ?_) | with_reducible refine Guard_not (fun h => ?_) (fun h => ?_) | with_reducible refine IfB_ndec (fun h => ?_) (fun h => ?_) | with_reducible refine IfB_not (fun h => ?_) (fun h => ?_) | with_reducible refine Guard_split (fun h => ?_) (fun h => ?_) | with_reducible refine IfB_split (fun h => ?_) (fun h => ?_))
  refine (ak _).mono ?_
  rintro _ H1 ⟨⟨a, rfl, ha⟩, k1⟩
  rw [if_pos rfl] at ha
  obtain ⟨vt, vk, rfl, o1, o2, hdis⟩ := ha
  clear ak
  have g1 := k1.get (b := H.length + 1) (B := ⟨[.nils, .nils], 0, .full⟩) (by rw [hgetk]; rfl) (by simp)
  have hl1 : H.length + 2 ≤ H1.length := by have := k1.len; simpa using this
  have hv1 := o1.one
  have hv2 := o2.one
  have hg1b := get_app g1 [(⟨[vt, vk], 0, .full⟩ : Blk)]
  have x : OO none (H.length + 2) (H1 ++ [(⟨[vt, vk], 0, .full⟩ : Blk)]) H1.length o vt vk := ⟨by simp, (Own.mono o1 (by simp)).keep0 (Keep.app _ _ _), (Own.mono o2 (by simp)).keep0 (Keep.app _ _ _), fun e => by have := o1.lt e; omega, fun e => by have := o2.lt e; omega, hdis, by simp; omega, fun b hb => by cases hb⟩
  have kH : ∀ b, b < H.length → (H1 ++ [(⟨[vt, vk], 0, .full⟩ : Blk)])[b]? = H[b]? := fun b hb => by rw [List.getElem?_append_left (by omega), k1.at_ b (by simp; omega) (by simp), List.getElem?_append_left hb]
  have gq := x.bq
  have e1 := x.ot.alen (T := T) (by decide) tk22
  have e2 := x.ok.alen (T := T) (by decide) tk22
  repeat' (first | simp only [go_sem, Nat.reduceLT, Nat.reduceEqDiff, Nat.reduceAdd, Nat.reduceMul, Nat.reduceSub, Nat.reduceLeDiff, Int.reduceToNat, Int.reduceNeg, Int.reduceLT, Int.reduceLE, Int.reduceEq, reduceCtorEq, Int.natCast_zero, Int.natCast_one, Int.cast_ofNat_Int, Bool.not_not, false_eq_decide, true_eq_decide, hread0, hreadk, read_cons0, read_consk, astore_h0, astore_hk, hget0, hgetk, hset0, hsetk, hlen, hcat, Nat.add_assoc, Nat.add_zero, Nat.zero_add, List.length_append, and_true, true_and, AV.flat, hv1, one_solid hv1, one_cells hv1, hv2, one_solid hv2, one_cells hv2, gq, get_app gq, read_get gq, read_app gq, *, -hK, -k1, -hl1, -g1, -o1, -o2, -hdis, -x, -kH, -hg1b, -hff, -hm1] | with_reducible refine IfB_dec (fun h => ?_) (fun h => ?_) | with_reducible refine Guard_dec (fun h => ?_) (fun h => ?_) | with_reducible refine Guard_ndec (fun h => ?_) (fun h => ?_) | with_reducible refine Guard_not (fun h => ?_) (fun h => ?_) | with_reducible refine IfB_ndec (fun h => ?_) (fun h => ?_) | with_reducible refine IfB_not (fun h => ?_) (fun h => ?_) | with_reducible refine Guard_split (fun h => ?_) (fun h => ?_) | with_reducible refine IfB_split (fun h => ?_) (fun h => ?_))
  obtain ⟨tl1, tl2⟩ := takeO_len o s
  refine (take_own x hff s).mono ?_
  rintro _ J1 ⟨rfl, ⟨v1, v2, x1⟩, l1⟩
  generalize hto : takeO o s = o1 at *
  have hv5 := x1.ot.one
  have hv6 := x1.ok.one
  have hq5 := x1.bq
  repeat' (first | simp only [go_sem, Nat.reduceLT, Nat.reduceEqDiff, Nat.reduceAdd, Nat.reduceMul, Nat.reduceSub, Nat.reduceLeDiff, Int.reduceToNat, Int.reduceNeg, Int.reduceLT, Int.reduceLE, Int.reduceEq, reduceCtorEq, Int.natCast_zero, Int.natCast_one, Int.cast_ofNat_Int, Bool.not_not, false_eq_decide, true_eq_decide, hread0, hreadk, read_cons0, read_consk, astore_h0, astore_hk, hget0, hgetk, hset0, hsetk, hlen, hcat, Nat.add_assoc, Nat.add_zero, Nat.zero_add, List.length_append, and_true, true_and, AV.flat, hv5, one_solid hv5, one_cells hv5, hv6, one_solid hv6, one_cells hv6, hq5, get_app hq5, read_get hq5, read_app hq5, *, -hK, -k1, -hl1, -g1, -o1, -o2, -hdis, -x, -kH, -hg1b, -x1, -l1, -hto, -tl1, -tl2, -hff, -hm1, -hE, -hA0, -hm, -hin] | with_reducible refine IfB_dec (fun h => ?_) (fun h => ?_) | with_reducible refine Guard_dec (fun h => ?_) (fun h => ?_) | with_reducible refine Guard_ndec (fun h => ?_) (fun h => ?_) | with_reducible refine Guard_not (fun h => ?_) (fun h => ?_) | with_reducible refine IfB_ndec (fun h => ?_) (fun h => ?_) | with_reducible refine IfB_not (fun h => ?_) (fun h => ?_) | with_reducible refine Guard_split (fun h => ?_) (fun h => ?_) | with_reducible refine IfB_split (fun h => ?_) (fun h => ?_))
  have x1b := x1.keep (Keep.app none J1 [(⟨[.str s], 1, .full⟩ : Blk)])
  have hins := insert_own (H.length + 2) v2 o1.k s (J1 ++ [(⟨[.str s], 1, .full⟩ : Blk)]) J1.length (by simp) x1b.ok (fun e => by have := x1.ok.lt e; omega) (by omega) x1b.le
  refine hins.mono ?_
  rintro r G ⟨or_, kr, hrn⟩
  have hro := or_.one
  obtain ⟨y1, y2⟩ := x1b.setK kr or_ hrn
  have hq2 := kr.get x1b.bq (fun e => x1b.kq e)
  have hq2b := y1.bq
  repeat' (first | simp only [go_sem, Nat.reduceLT, Nat.reduceEqDiff, Nat.reduceAdd, Nat.reduceMul, Nat.reduceSub, Nat.reduceLeDiff, Int.reduceToNat, Int.reduceNeg, Int.reduceLT, Int.reduceLE, Int.reduceEq, reduceCtorEq, Int.natCast_zero, Int.natCast_one, Int.cast_ofNat_Int, Bool.not_not, false_eq_decide, true_eq_decide, hread0, hreadk, read_cons0, read_consk, astore_h0, astore_hk, hget0, hgetk, hset0, hsetk, hlen, hcat, Nat.add_assoc, Nat.add_zero, Nat.zero_add, List.length_append, and_true, true_and, AV.flat, hv5, one_solid hv5, one_cells hv5, hv6, one_solid hv6, one_cells hv6, hro, one_solid hro, one_cells hro, hq2, get_app hq2, read_get hq2, read_app hq2, hq2, get_app hq2, read_get hq2, read_app hq2, astore_get hq2, astore_app hq2, get_set hq2, get_set_app hq2, read_set hq2, read_set_app hq2, astore_set hq2, astore_set_app hq2, List.set_set, hget0s, hgetks, hread0s, hreadks, List.length_set, *, -hK, -k1, -hl1, -g1, -o1, -o2, -hdis, -x, -kH, -hg1b, -x1, -l1, -hto, -tl1, -tl2, -hff, -hm1, -hE, -hA0, -hm, -hin, -x1b, -y1, -y2, -hins, -kr, -or_, -hrn, -hq2b] | with_reducible refine IfB_dec (fun h => ?_) (fun h => ?_) | with_reducible refine Guard_dec (fun h => ?_) (fun h => ?_) | with_reducible refine Guard_ndec (fun h => ?_) (fun h => ?_) | with_reducible refine Guard_not (fun h => ?_) (fun h => ?_) | with_reducible refine IfB_ndec (fun h => ?_) (fun h => ?_) | with_reducible refine IfB_not (fun h => ?_) (fun h => ?_) | with_reducible refine Guard_split (fun h => ?_) (fun h => ?_) | with_reducible refine IfB_split (fun h => ?_) (fun h => ?_))
  have hlo : Lo none (H.length + 2) H1.length (H1 ++ [(⟨[vt, vk], 0, .full⟩ : Blk)]) (List.set G H1.length ⟨[v1, r], 0, .full⟩) := (l1.trans (Lo.of (Keep.app none J1 _) x1.le)).trans y2
  have hg2 : (List.set G H1.length ⟨[v1, r], 0, .full⟩)[H.length + 1]? = some (⟨[.nils, .nils], 0, .full⟩ : Blk) := by rw [hlo.at_ _ (by omega) (by omega)]; exact hg1b
  have hkH2 : ∀ b, b < H.length → (List.set G H1.length ⟨[v1, r], 0, .full⟩)[b]? = H[b]? := fun b hb => by rw [hlo.at_ b (by omega) (by omega)]; exact kH b hb
  have hfit1 : (⟨o1.t, s :: o1.k⟩ : Ord).fit := ⟨by show o1.t.length ≤ _; omega, by show o1.k.length + 1 ≤ _; omega⟩
  refine (level_own y1 hfit1 (by show o1.t.length + (o1.k.length + 1) ≤ _; omega)).mono ?_
  rintro _ J2 ⟨rfl, ⟨v3, v4, x3⟩, l3⟩
  have hv3 := x3.ot.one
  have hv4 := x3.ok.one
  have hq3 := x3.bq
  have hg3 : J2[H.length + 1]? = some (⟨[.nils, .nils], 0, .full⟩ : Blk) := by rw [l3.at_ _ (by omega) (by omega)]; exact hg2
  obtain ⟨z1, z2⟩ := x3.answer (fun b hb => by rw [l3.at_ b (by omega) (by omega)]; exact hkH2 b hb)
  repeat' (first | simp only [go_sem, Nat.reduceLT, Nat.reduceEqDiff, Nat.reduceAdd, Nat.reduceMul, Nat.reduceSub, Nat.reduceLeDiff, Int.reduceToNat, Int.reduceNeg, Int.reduceLT, Int.reduceLE, Int.reduceEq, reduceCtorEq, Int.natCast_zero, Int.natCast_one, Int.cast_ofNat_Int, Bool.not_not, false_eq_decide, true_eq_decide, hread0, hreadk, read_cons0, read_consk, astore_h0, astore_hk, hget0, hgetk, hset0, hsetk, hlen, hcat, Nat.add_assoc, Nat.add_zero, Nat.zero_add, List.length_append, and_true, true_and, AV.flat, hv3, one_solid hv3, one_cells hv3, hv4, one_solid hv4, one_cells hv4, hq3, get_app hq3, read_get hq3, read_app hq3, hg3, get_app hg3, read_get hg3, read_app hg3, astore_get hg3, astore_app hg3, get_set hg3, get_set_app hg3, read_set hg3, read_set_app hg3, astore_set hg3, astore_set_app hg3, List.set_set, hget0s, hgetks, hread0s, hreadks, List.length_set, *, -hK, -k1, -hl1, -g1, -o1, -o2, -hdis, -x, -kH, -hg1b, -x1, -l1, -hto, -tl1, -tl2, -hff, -hm1, -hE, -hA0, -hm, -hin, -x3, -l3, -z1, -z2, -hg2, -hkH2, -hfit1, -hlo, -y1, -y2, -hins, -kr, -or_, -hrn, -hq2, -hq2b, -x1b] | with_reducible refine IfB_dec (fun h => ?_) (fun h => ?_) | with_reducible refine Guard_dec (fun h => ?_) (fun h => ?_) | with_reducible refine Guard_ndec (fun h => ?_) (fun h => ?_) | with_reducible refine Guard_not (fun h => ?_) (fun h => ?_) | with_reducible refine IfB_ndec (fun h => ?_) (fun h => ?_) | with_reducible refine IfB_not (fun h => ?_) (fun h => ?_) | with_reducible refine Guard_split (fun h => ?_) (fun h => ?_) | with_reducible refine IfB_split (fun h => ?_) (fun h => ?_))
  exact hK _ _ ⟨⟨_, rfl, z1⟩, z2⟩
end Go.Proofs.Ytakllaigpjbgdaa
