import Derived.Test.YtccfhighlpfdmaaTrkR2
set_option linter.unusedSimpArgs false
set_option linter.unusedVariables false
set_option maxRecDepth 100000
set_option maxHeartbeats 4000000
namespace Go.Proofs.Ytccfhighlpfdmaa
open Go Go.Proofs Go.Proofs.PI
theorem TrOut.keep {m : Nat} {J G : Heap} {v : AV} {l : List Tk} (o : TrOut m J v l) (k : Keep none J G) : TrOut m G v l := by
  rcases o with ⟨h, rfl⟩ | ⟨p, ps, rfl, o⟩
  · exact .inl ⟨h, rfl⟩
  · exact .inr ⟨p, ps, rfl, o.moved k⟩
theorem TrOut.low {m : Nat} {J G : Heap} {v : AV} {l : List Tk} (o : TrOut m J v l) (h : ∀ b, m ≤ b → b < J.length → G[b]? = J[b]?) : TrOut m G v l := by
  rcases o with ⟨h, rfl⟩ | ⟨p, ps, rfl, o⟩
  · exact .inl ⟨h, rfl⟩
  · exact .inr ⟨p, ps, rfl, o.low h⟩
theorem TrOut.one {m : Nat} {J : Heap} {v : AV} {l : List Tk} (o : TrOut m J v l) : v.one = true := by
  rcases o with ⟨_, rfl⟩ | ⟨p, ps, rfl, _⟩ <;> rfl
/-- Tracks of one's own between two places. -/
def TrU (m L : Nat) (J : Heap) (v : AV) (l : List Tk) : Prop := (l = [] ∧ v = .nils) ∨ ∃ p ps, v = .sl p 0 l.length none ∧ TkO m J p l.length ps l ∧ TkU L p ps
theorem TrOut.u {m : Nat} {J : Heap} {v : AV} {l : List Tk} (o : TrOut m J v l) : TrU m J.length J v l := by
  rcases o with h | ⟨p, ps, h, o⟩
  · exact .inl h
  · exact .inr ⟨p, ps, h, o, o.lts⟩
theorem TrU.moved {m L : Nat} {J G : Heap} {v : AV} {l : List Tk} (o : TrU m L J v l) (h : ∀ b, m ≤ b → b < L → G[b]? = J[b]?) : TrU m L G v l := by
  rcases o with h1 | ⟨p, ps, h1, o, u⟩
  · exact .inl h1
  · exact .inr ⟨p, ps, h1, o.lowU u h, u⟩
theorem TrU.alen {m L : Nat} {J : Heap} {v : AV} {l : List Tk} (o : TrU m L J v l) : PI.alen T 22 v = some (.int .i64 l.length) := by
  rcases o with ⟨rfl, rfl⟩ | ⟨p, ps, rfl, o, u⟩
  · simp only [PI.alen, tk22]; rfl
  · simp only [PI.alen, tk22]
theorem TrU.one {m L : Nat} {J : Heap} {v : AV} {l : List Tk} (o : TrU m L J v l) : v.one = true := by
  rcases o with ⟨_, rfl⟩ | ⟨p, ps, rfl, _⟩ <;> rfl
/-- Only what lies from m to L was written. -/
structure Btw (m L : Nat) (J G : Heap) : Prop where
  len : J.length ≤ G.length
  at_ : ∀ b, b < J.length → b < m ∨ L ≤ b → G[b]? = J[b]?
theorem Btw.refl (m L : Nat) (J : Heap) : Btw m L J J := ⟨Nat.le_refl _, fun _ _ _ => rfl⟩
theorem Btw.step {m L b : Nat} {J G I : Heap} (h : Btw m L J G) (k : Keep (some b) G I) (h1 : m ≤ b) (h2 : b < L) : Btw m L J I :=
  ⟨Nat.le_trans h.len k.len, fun c hc hb => by rw [k.at_ c (Nat.lt_of_lt_of_le hc h.len) (by intro e; cases e; omega)]; exact h.at_ c hc hb⟩
theorem Btw.get {m L : Nat} {J G : Heap} (h : Btw m L J G) {b : Nat} {B : Blk} (hb : J[b]? = some B) (hx : b < m ∨ L ≤ b) : G[b]? = some B := by
  rw [h.at_ b (List.getElem?_eq_some_iff.1 hb).1 hx]; exact hb
theorem sameChanges_vs (xs : List Chg) (hx : xs.length ≤ 140737488355328) (H : Heap) (v : AV) (hv : Vs H v 11 xs.length (chgE.row xs)) : WC Try.prog 35 [v, chgE.lst xs] H fun r H' => r = .bool true ∧ H' = H := by
  refine WC_of_K fun K hK => ?_
  have hvo := hv.one
  have e0 := hv.alen tk25
  refine WC_of_body hT Try.func35 rfl (by simp [Try.f35]) (by simp [Try.f35]) (wx_sound hT _ ?_)
  simp only [Try.f35]
  repeat' (first | simp only [go_sem, Nat.reduceLT, Nat.reduceEqDiff, Nat.reduceAdd, Nat.reduceMul, Nat.reduceSub, Nat.reduceLeDiff, Int.reduceToNat, Int.reduceNeg, Int.reduceLT, Int.reduceLE, Int.reduceEq, reduceCtorEq, Int.natCast_zero, Int.natCast_one, Int.cast_ofNat_Int, Bool.not_not, false_eq_decide, true_eq_decide, hread0, hreadk, read_cons0, read_consk, astore_h0, astore_hk, hget0, hgetk, hset0, hsetk, hlen, hcat, Nat.add_assoc, Nat.add_zero, Nat.zero_add, List.length_append, and_true, true_and, AV.flat, hvo, one_solid hvo, one_cells hvo, *, -hK, -hv] | with_reducible refine IfB_dec (fun h => ?_) (fun h => ?_) | with_reducible refine Guard_dec (fun h => ?_) (fun h => ?_) | with_reducible refine Guard_ndec (fun h => ?_) (fun h => ?_) | with_reducible refine Guard_not (fun h => ?_) (fun h => ?_) | with_reducible refine IfB_ndec (fun h => ?_) (fun h => ?_) | with_reducible refine IfB_not (fun h => ?_) (fun h => ?_) | with_reducible refine Guard_split (fun h => ?_) (fun h => ?_) | with_reducible refine IfB_split (fun h => ?_) (fun h => ?_))
  refine WX_loopS [0, 1] (fun k fr' H' => ∃ i : Nat, k = xs.length - i ∧ i ≤ xs.length ∧ fr'.get 5 = .int .i64 i ∧ H' = H) xs.length ⟨0, rfl, by omega, by simp only [go_sem, Nat.reduceLT, Nat.reduceEqDiff, Nat.reduceAdd, Nat.reduceMul, Nat.reduceSub, Nat.reduceLeDiff, Int.reduceToNat, Int.reduceNeg, Int.reduceLT, Int.reduceLE, Int.reduceEq, reduceCtorEq]; rfl, rfl⟩ ?_
  rintro k fr' H1 A R hA hs hg hR ⟨i, rfl, hi, f5, rfl⟩
  have s0 := hg 0 (by decide)
  have s1 := hg 1 (by decide)
  simp only [Fr.get_put, Fr.get_init, List.getD_cons_zero, List.getD_cons_succ, Nat.reduceEqDiff, if_true, if_false] at s0 s1
  refine wx_sound hT _ ?_
  by_cases hlt : i < xs.length
  · have h1 : (i : Int) < xs.length := by omega
    have e1 := at_enc (E := chgE) (T := T) (k := .i64) se25 hlt rfl
    have e3 := inc_id hlt hx
    obtain ⟨b, o, a1, a2, -⟩ := hv.at_ (T := T) se25 hlt (k := .i64) rfl
    rw [show (11 : Nat) = chgE.sz from rfl, Enc.row_at hlt, show chgE.sz = 11 from rfl, chgE_cells] at a2
    rw [chgE_cells] at e1
    generalize xs[i] = c at *
    repeat' (first | simp only [go_sem, Nat.reduceLT, Nat.reduceEqDiff, Nat.reduceAdd, Nat.reduceMul, Nat.reduceSub, Nat.reduceLeDiff, Int.reduceToNat, Int.reduceNeg, Int.reduceLT, Int.reduceLE, Int.reduceEq, reduceCtorEq, Int.natCast_zero, Int.natCast_one, Int.cast_ofNat_Int, Bool.not_not, false_eq_decide, true_eq_decide, hread0, hreadk, read_cons0, read_consk, astore_h0, astore_hk, hget0, hgetk, hset0, hsetk, hlen, hcat, Nat.add_assoc, Nat.add_zero, Nat.zero_add, List.length_append, and_true, true_and, AV.flat, hvo, one_solid hvo, one_cells hvo, *, -hK, -hv] | with_reducible refine IfB_dec (fun h => ?_) (fun h => ?_) | with_reducible refine Guard_dec (fun h => ?_) (fun h => ?_) | with_reducible refine Guard_ndec (fun h => ?_) (fun h => ?_) | with_reducible refine Guard_not (fun h => ?_) (fun h => ?_) | with_reducible refine IfB_ndec (fun h => ?_) (fun h => ?_) | with_reducible refine IfB_not (fun h => ?_) (fun h => ?_) | with_reducible refine Guard_split (fun h => ?_) (fun h => ?_) | with_reducible refine IfB_split (fun h => ?_) (fun h => ?_))
    refine WX_rows hT hmix [(0, none), (1, none), (2, none), (3, none), (4, none), (5, none), (6, none), (7, none), (8, none)] (by kernel_rfl) ?_
    repeat' (first | simp only [go_sem, Nat.reduceLT, Nat.reduceEqDiff, Nat.reduceAdd, Nat.reduceMul, Nat.reduceSub, Nat.reduceLeDiff, Int.reduceToNat, Int.reduceNeg, Int.reduceLT, Int.reduceLE, Int.reduceEq, reduceCtorEq, Int.natCast_zero, Int.natCast_one, Int.cast_ofNat_Int, Bool.not_not, false_eq_decide, true_eq_decide, hread0, hreadk, read_cons0, read_consk, astore_h0, astore_hk, hget0, hgetk, hset0, hsetk, hlen, hcat, Nat.add_assoc, Nat.add_zero, Nat.zero_add, List.length_append, and_true, true_and, AV.flat, hvo, one_solid hvo, one_cells hvo, *, -hK, -hv] | with_reducible refine IfB_dec (fun h => ?_) (fun h => ?_) | with_reducible refine Guard_dec (fun h => ?_) (fun h => ?_) | with_reducible refine Guard_ndec (fun h => ?_) (fun h => ?_) | with_reducible refine Guard_not (fun h => ?_) (fun h => ?_) | with_reducible refine IfB_ndec (fun h => ?_) (fun h => ?_) | with_reducible refine IfB_not (fun h => ?_) (fun h => ?_) | with_reducible refine Guard_split (fun h => ?_) (fun h => ?_) | with_reducible refine IfB_split (fun h => ?_) (fun h => ?_))
    exact hR _ _ (by (repeat (first | exact hs | refine hA _ _ _ (by decide) ?_))) (xs.length - (i + 1)) (by omega) ⟨i + 1, rfl, by omega, by simp only [go_sem, Nat.reduceLT, Nat.reduceEqDiff, Nat.reduceAdd, Nat.reduceMul, Nat.reduceSub, Nat.reduceLeDiff, Int.reduceToNat, Int.reduceNeg, Int.reduceLT, Int.reduceLE, Int.reduceEq, reduceCtorEq], rfl⟩
  have i1 : ¬ (i : Int) < xs.length := by omega
  repeat' (first | simp only [go_sem, Nat.reduceLT, Nat.reduceEqDiff, Nat.reduceAdd, Nat.reduceMul, Nat.reduceSub, Nat.reduceLeDiff, Int.reduceToNat, Int.reduceNeg, Int.reduceLT, Int.reduceLE, Int.reduceEq, reduceCtorEq, Int.natCast_zero, Int.natCast_one, Int.cast_ofNat_Int, Bool.not_not, false_eq_decide, true_eq_decide, hread0, hreadk, read_cons0, read_consk, astore_h0, astore_hk, hget0, hgetk, hset0, hsetk, hlen, hcat, Nat.add_assoc, Nat.add_zero, Nat.zero_add, List.length_append, and_true, true_and, AV.flat, hvo, one_solid hvo, one_cells hvo, *, -hK, -hv] | with_reducible refine IfB_dec (fun h => ?_) (fun h => ?_) | with_reducible refine Guard_dec (fun h => ?_) (fun h => ?_) | with_reducible refine Guard_ndec (fun h => ?_) (fun h => ?_) | with_reducible refine Guard_not (fun h => ?_) (fun h => ?_) | with_reducible refine IfB_ndec (fun h => ?_) (fun h => ?_) | with_reducible refine IfB_not (fun h => ?_) (fun h => ?_) | with_reducible refine Guard_split (fun h => ?_) (fun h => ?_) | with_reducible refine IfB_split (fun h => ?_) (fun h => ?_))
  exact hK _ _ ⟨rfl, rfl⟩
theorem Vs.same {H G : Heap} {v : AV} {sz n : Nat} {cs : List AV} (h : Vs H v sz n cs) (k : ∀ b, v.blk = some b → G[b]? = H[b]?) : Vs G v sz n cs := by
  refine ⟨h.1, ?_⟩
  rcases h.2 with h | h | ⟨b, o, cap, B, rfl, hcap, h1, h2⟩
  · exact .inl h
  · exact .inr (.inl h)
  · exact .inr (.inr ⟨b, o, cap, B, rfl, hcap, by rw [k b rfl]; exact h1, h2⟩)
theorem OwnE.same {α : Type} {E : Enc α} {m : Nat} {H G : Heap} {v : AV} {xs : List α} (h : OwnE E m H v xs) (k : ∀ b, v.blk = some b → G[b]? = H[b]?) : OwnE E m G v xs := by
  rcases h with h | ⟨b, n, st, rest, rfl, q1, q2, q3⟩
  · exact .inl h
  · exact .inr ⟨b, n, st, rest, rfl, q1, by rw [k b rfl]; exact q2, q3⟩
end Go.Proofs.Ytccfhighlpfdmaa

