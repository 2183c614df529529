import Derived.Test.YtakllaigpjbgdaaPiV
/-! PI, part W: one field of an element of an own slice is written. -/
set_option linter.unusedVariables false
set_option linter.unusedSimpArgs false
namespace Go.Proofs.PI
open Go.RowKit
section
variable {α : Type} {E : Enc α} {T : TypeId → Option TD} {H H' : Heap} {t e te : TypeId} {xs : List α} {m : Nat} {v : AV}
theorem Enc.row_setF {i : Nat} (hi : i < xs.length) {j : Nat} (hj : j < E.sz) {x : α} {c : AV} (hx : E.cells x = (E.cells xs[i]).set j c) : wr (E.row xs) (i * E.sz + j) [c] = E.row (xs.set i x) := by
  have hmul : (i + 1) * E.sz ≤ xs.length * E.sz := Nat.mul_le_mul_right _ hi
  rw [Nat.succ_mul] at hmul
  have hrl := Enc.row_length (E := E) xs
  rw [← Enc.row_set hi]
  apply List.ext_getElem?
  intro k
  rw [wr_getElem? _ _ _ (by simp; omega), wr_getElem? _ _ _ (by rw [E.len]; omega), hx, List.length_set, E.len]
  have hat : ∀ q, q < E.sz → (E.cells xs[i])[q]? = (E.row xs)[i * E.sz + q]? := fun q hq => by
    rw [← Enc.row_at hi, List.getElem?_take_of_lt hq, List.getElem?_drop]
  by_cases h1 : i * E.sz ≤ k ∧ k < i * E.sz + E.sz
  · rw [if_pos h1, List.getElem?_set]
    by_cases h2 : j = k - i * E.sz
    · rw [if_pos h2, if_pos (show i * E.sz + j ≤ k ∧ k < i * E.sz + j + [c].length from by simp only [List.length_cons, List.length_nil]; omega), if_pos (by rw [E.len]; omega), show k - (i * E.sz + j) = 0 by omega]; rfl
    · rw [if_neg h2, if_neg (by simp only [List.length_cons, List.length_nil]; omega), hat _ (by omega), show i * E.sz + (k - i * E.sz) = k by omega]
  · rw [if_neg h1, if_neg (by simp only [List.length_cons, List.length_nil]; omega)]
theorem OwnE.setF (h : OwnE E m H v xs) (hsz : 0 < E.sz) (he : asliceElem T t = some (e, E.sz)) {i : Nat} (hi : i < xs.length) {k : IntKind} {z : Int} (hz : z = i) {j : Nat} (hj : j < E.sz) {x : α} {c : AV} (hx : E.cells x = (E.cells xs[i]).set j c) (hte : asize T te = some 1) (hs : c.solid = true) (hc : c.cells = [c]) :
    ∃ b o H2, aindexAddr T t v (.int k z) = some (.ptr b o) ∧ H.read b o E.sz = some (E.cells xs[i]) ∧ astore T H te (.ptr b (o + j)) c = some H2 ∧ OwnE E m H2 v (xs.set i x) ∧ Keep (some b) H H2 ∧ v.blk = some b := by
  subst hz
  rcases h with ⟨rfl, h0⟩ | ⟨b, n, st, rest, rfl, h1, h2, h4, h3⟩
  · exfalso
    have := Enc.row_length (E := E) xs
    rw [h0] at this
    have := Nat.mul_pos (show 0 < xs.length by omega) hsz
    simp at *; omega
  · rw [Enc.row_length] at h3
    have hn : xs.length = n := Nat.eq_of_mul_eq_mul_right hsz h3
    subst hn
    have hlt := (List.getElem?_eq_some_iff.1 h2).1
    have hmul : (i + 1) * E.sz ≤ xs.length * E.sz := Nat.mul_le_mul_right _ hi
    rw [Nat.succ_mul] at hmul
    have hrl := Enc.row_length (E := E) xs
    refine ⟨b, 0 + i * E.sz, List.set H b ⟨wr (E.row xs ++ rest) (0 + i * E.sz + j) [c], E.sz, st⟩, ?_, ?_, ?_, .inr ⟨b, xs.length, st, rest, rfl, h1, ?_, h4, by rw [Enc.row_length, List.length_set]⟩, ⟨by simp, fun c hc hx => by rw [List.getElem?_set_ne (by intro e; subst e; exact hx rfl)]⟩, rfl⟩
    · simp only [aindexAddr, he]
      rw [if_pos ⟨by omega, by omega⟩, Int.toNat_natCast]
    · unfold Heap.read
      rw [h2]
      simp only [own_alive h4, true_and]
      rw [if_pos (by rw [List.length_append]; omega), Nat.zero_add, List.drop_append_of_le_length (by omega), List.take_append_of_le_length (by rw [List.length_drop]; omega), Enc.row_at hi]
    · simp only [astore, hte, h2, h4, hs, hc, List.length_cons, List.length_nil, true_and]
      rw [if_pos (by rw [List.length_append]; omega)]
    · rw [List.getElem?_set_self hlt, Nat.zero_add, wr_left _ _ _ _ (by simp; omega), Enc.row_setF hi hj hx]
end
theorem read_sub {H : Heap} {b o n : Nat} {l : List AV} (h : H.read b o n = some l) (j k : Nat) (hjk : j + k ≤ n) : H.read b (o + j) k = some ((l.drop j).take k) := by
  unfold Heap.read at h ⊢
  cases hb : H[b]? with
  | none => rw [hb] at h; cases h
  | some B =>
    rw [hb] at h
    simp only at h ⊢
    split at h
    · rename_i hc
      rw [if_pos ⟨hc.1, by omega⟩]
      simp only [Option.some.injEq] at h ⊢
      rw [← h, List.drop_take, List.drop_drop, List.take_take, Nat.min_eq_left (by omega)]
    · cases h
end Go.Proofs.PI
