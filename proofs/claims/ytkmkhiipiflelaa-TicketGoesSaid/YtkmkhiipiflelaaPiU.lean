import Derived.Test.YtkmkhiipiflelaaPiT
/-! PI, part U: lists of things as values, and as own slices. -/
set_option linter.unusedVariables false
set_option linter.unusedSimpArgs false
namespace Go.Proofs.PI
open Go.RowKit

/-- How a thing lies in cells. -/
structure Enc (α : Type) where
  sz : Nat
  cells : α → List AV
  len : ∀ x, (cells x).length = sz
  flat : ∀ x, ∀ a ∈ cells x, a.flat = true
theorem AV.flat_one {a : AV} (h : a.flat = true) : a.one = true := by cases a <;> first | rfl | cases h
section
variable {α : Type} (E : Enc α)
def Enc.row (xs : List α) : List AV := xs.flatMap E.cells
def Enc.lst (xs : List α) : AV := .lst xs.length (E.row xs)
end
section
variable {α : Type} {E : Enc α} {T : TypeId → Option TD} {H : Heap} {t e : TypeId} {xs : List α}
theorem Enc.row_nil : E.row [] = [] := rfl
theorem Enc.row_cons (x : α) (xs : List α) : E.row (x :: xs) = E.cells x ++ E.row xs := rfl
theorem Enc.row_append (xs ys : List α) : E.row (xs ++ ys) = E.row xs ++ E.row ys := List.flatMap_append
theorem Enc.row_one (x : α) : E.row [x] = E.cells x := by rw [row_cons, row_nil, List.append_nil]
theorem Enc.row_length (xs : List α) : (E.row xs).length = xs.length * E.sz := by
  induction xs with
  | nil => simp [row_nil]
  | cons x xs ih => rw [row_cons, List.length_append, E.len, ih, List.length_cons, Nat.succ_mul, Nat.add_comm]
theorem Enc.row_flat (xs : List α) : ∀ a ∈ E.row xs, a.flat = true := fun a ha => by
  obtain ⟨x, _, hx⟩ := List.mem_flatMap.1 ha; exact E.flat x a hx
theorem Enc.row_drop (xs : List α) (i : Nat) : (E.row xs).drop (i * E.sz) = E.row (xs.drop i) := by
  induction i generalizing xs with
  | zero => simp
  | succ i ih =>
    cases xs with
    | nil => simp [row_nil]
    | cons x xs =>
      rw [row_cons, Nat.succ_mul, Nat.add_comm, ← List.drop_drop, List.drop_succ_cons, ← ih]
      rw [← E.len x, List.drop_left]
theorem Enc.row_take (xs : List α) (i : Nat) : (E.row xs).take (i * E.sz) = E.row (xs.take i) := by
  induction i generalizing xs with
  | zero => simp [row_nil]
  | succ i ih =>
    cases xs with
    | nil => simp [row_nil]
    | cons x xs =>
      rw [row_cons, List.take_succ_cons, row_cons, ← ih, Nat.succ_mul, Nat.add_comm, List.take_append, List.take_of_length_le (by rw [E.len]; omega), E.len]
      congr 2; omega
theorem Enc.row_at {i : Nat} (hi : i < xs.length) : ((E.row xs).drop (i * E.sz)).take E.sz = E.cells xs[i] := by
  rw [row_drop, List.drop_eq_getElem_cons hi, row_cons, List.take_append, List.take_of_length_le (by rw [E.len]; exact Nat.le_refl _), E.len]
  simp
theorem one_enc (E : Enc α) (xs : List α) : (E.lst xs).one = true := rfl
theorem solid_enc (E : Enc α) (xs : List α) : (E.lst xs).solid = true := rfl
theorem cells_enc (E : Enc α) (xs : List α) : (E.lst xs).cells = [E.lst xs] := rfl
theorem alen_enc (E : Enc α) (xs : List α) (T : TypeId → Option TD) (t : TypeId) : alen T t (E.lst xs) = match tk T t with
  | .slice _ => some (.int .i64 xs.length)
  | _ => none := alen_lst ..
theorem at_enc (he : asliceElem T t = some (e, E.sz)) {i : Nat} (hi : i < xs.length) {k : IntKind} {z : Int} (hz : z = i) : aindexAddr T t (E.lst xs) (.int k z) = some (.cptr (E.cells xs[i])) := by
  subst hz
  simp only [aindexAddr, Enc.lst, he, Int.toNat_natCast]
  rw [if_pos ⟨by omega, by omega, by rw [Enc.row_length]; exact Nat.mul_le_mul_right _ (by omega)⟩, Enc.row_at hi]
theorem slice_enc (he : asliceElem T t = some (e, E.sz)) {lo hi : Option AV} {l u : Nat} (hl : abound 0 lo = some l) (hh : abound xs.length hi = some u) (hlu : l ≤ u) (hun : u ≤ xs.length) : aslice T H t (E.lst xs) lo hi none = some (E.lst ((xs.take u).drop l)) := by
  simp only [aslice, Enc.lst, he, hl, hh]
  rw [if_pos ⟨hlu, hun, by rw [Enc.row_length]; exact Nat.mul_le_mul_right _ hun⟩]
  congr 2
  · simp; omega
  · rw [Enc.row_drop, Enc.row_take, List.drop_take]
theorem src_enc (hk : tk T t = .slice e) : asrc T H t (E.lst xs) E.sz = some (xs.length, E.row xs) := by
  simp only [asrc, Enc.lst, hk]
  rw [if_pos (Enc.row_length xs)]
end

/-! ### Own slices of things -/
section
variable {α : Type} {E : Enc α} {T : TypeId → Option TD} {H H' : Heap} {t tx e : TypeId} {xs : List α} {m : Nat} {v : AV}
/-- An own slice of things. -/
def OwnE (E : Enc α) (m : Nat) (H : Heap) (v : AV) (xs : List α) : Prop := Own m H v E.sz (E.row xs)
theorem OwnE.nils (E : Enc α) (m : Nat) (H : Heap) : OwnE E m H .nils [] := .inl ⟨rfl, rfl⟩
theorem OwnE.thaw (h : OwnE E m H v xs) (hsz : 0 < E.sz) : Thaw m H v (E.lst xs) := Thaw.own h (Enc.row_flat xs) (Enc.row_length xs) hsz
theorem OwnE.keep0 (h : OwnE E m H v xs) (k : Keep none H H') : OwnE E m H' v xs := Own.keep0 h k
theorem OwnE.one (h : OwnE E m H v xs) : v.one = true := Own.one h
theorem OwnE.vs (h : OwnE E m H v xs) (hsz : 0 < E.sz) : Vs H v E.sz xs.length (E.row xs) := by
  obtain ⟨n, hn⟩ := Own.vs h hsz
  have : n = xs.length := Nat.eq_of_mul_eq_mul_right hsz (by rw [← hn.len, Enc.row_length])
  exact this ▸ hn
theorem OwnE.alen (h : OwnE E m H v xs) (hsz : 0 < E.sz) (hk : tk T t = .slice e) : PI.alen T t v = some (.int .i64 xs.length) := (h.vs hsz).alen hk
theorem OwnE.at_ (h : OwnE E m H v xs) (hsz : 0 < E.sz) (he : asliceElem T t = some (e, E.sz)) {i : Nat} (hi : i < xs.length) {k : IntKind} {z : Int} (hz : z = i) :
    ∃ b o, aindexAddr T t v (.int k z) = some (.ptr b o) ∧ H.read b o E.sz = some (E.cells xs[i]) ∧ v.blk = some b := by
  obtain ⟨b, o, h1, h2, h3⟩ := (h.vs hsz).at_ he hi (k := k) hz
  exact ⟨b, o, h1, by rw [h2, Enc.row_at hi], h3⟩
theorem OwnE.new {G I J : Heap} {w : AV} {ys : List α} {K' : Heap} (h : OwnE E G.length K' w ys) (k : Keep none G I) (k' : Keep w.blk I J) : Keep none G J := Own.new h k k'
theorem OwnE.ge (h : OwnE E m H v xs) {b : Nat} (hb : v.blk = some b) : m ≤ b := Own.ge h hb
theorem OwnE.lt (h : OwnE E m H v xs) {b : Nat} (hb : v.blk = some b) : b < H.length := Own.lt h hb
theorem OwnE.keep {x : Option Nat} (h : OwnE E m H v xs) (k : Keep x H H') (hx : ∀ b, x = some b → v.blk ≠ some b) : OwnE E m H' v xs := Own.keep h k hx
/-- Things put behind own ones. -/
theorem append_enc {x : AV} {z : List AV} {d : TD} {ys : List α} (ho : OwnE E m H v xs) (he : asliceElem T t = some (e, E.sz)) (hz : azero T e = some z) (hd : T e = some d) (hs : asrc T H tx x E.sz = some (ys.length, E.row ys))
    (hsz : 0 < E.sz) (hb : (xs.length + ys.length) * (E.sz * (d.bytes + 1)) ≤ 140737488355328) (hm : m ≤ H.length) {K : AV → Heap → Prop}
    (h : ∀ v' H', OwnE E m H' v' (xs ++ ys) → Keep v.blk H H' → (∀ b, v'.blk = some b → v.blk = some b ∨ H.length ≤ b) → K v' H') : On (aappend T H t tx v x) K := by
  have e0 : (E.row xs).length + (E.row ys).length = (xs.length + ys.length) * E.sz := by rw [Enc.row_length, Enc.row_length, Nat.add_mul]
  rw [← Nat.mul_assoc, ← e0, Nat.mul_succ] at hb
  refine append_own ho he hz hd hs (Enc.row_length ys) hsz ?_ ?_ hm fun v' H' h1 h2 h3 => h v' H' (by unfold OwnE; rw [Enc.row_append]; exact h1) h2 h3
  · omega
  · omega
theorem append1_enc {x : α} {st : St} {c : List AV} {z : List AV} {d : TD} (ho : OwnE E m H v xs) (hc : c = E.cells x) (he : asliceElem T t = some (e, E.sz)) (hz : azero T e = some z) (hd : T e = some d) (hk : tk T t = .slice e) (hal : st.alive = true) {sz : Nat} (hsz' : sz = E.sz)
    (hsz : 0 < E.sz) (hb : (xs.length + 1) * (E.sz * (d.bytes + 1)) ≤ 140737488355328) (hm : m ≤ H.length) {K : AV → Heap → Prop}
    (h : ∀ v' H', OwnE E m H' v' (xs ++ [x]) → Keep v.blk H H' → (∀ b, v'.blk = some b → v.blk = some b ∨ H.length ≤ b) → K v' H') : On (aappend T (H ++ [⟨c, sz, st⟩]) t t v (.sl H.length 0 1 none)) K := by
  subst hc; subst hsz'
  refine append_enc (ys := [x]) (ho.keep0 (Keep.snoc none H _)) he hz hd ?_ hsz hb (by simp; omega) fun v' H' h1 h2 h3 => ?_
  · rw [Enc.row_one]
    exact asrc_sl hk (Vs.sl (snoc_vs (cs := E.cells x) (n := 1) (by rw [E.len, Nat.one_mul]) hal))
  · exact h v' H' h1 ((Keep.weak (Keep.snoc none H _)).trans h2) fun b hb => (h3 b hb).imp id fun h4 => by simp at h4; omega
end

section
variable {α : Type} {E : Enc α} {T : TypeId → Option TD} {H H' : Heap} {t tx e te : TypeId} {xs : List α} {m : Nat} {v : AV}
theorem Enc.row_set {i : Nat} (hi : i < xs.length) (x : α) : wr (E.row xs) (i * E.sz) (E.cells x) = E.row (xs.set i x) := by
  have h1 : xs.set i x = xs.take i ++ x :: xs.drop (i + 1) := List.set_eq_take_append_cons_drop .. |>.trans (if_pos hi)
  have h2 : xs = xs.take i ++ xs.drop i := (List.take_append_drop i xs).symm
  rw [h1, Enc.row_append, Enc.row_cons]
  have := wr_behind (E.row (xs.take i)) (E.row (xs.drop i)) (E.cells x) (by rw [Enc.row_length, E.len, List.length_drop]; exact Nat.le_mul_of_pos_left _ (by omega))
  rw [← Enc.row_append, List.take_append_drop, Enc.row_length, List.length_take, Nat.min_eq_left (by omega)] at this
  rw [this, List.append_assoc]
  congr 2
  rw [E.len, ← Nat.one_mul E.sz, Enc.row_drop, List.drop_drop]
theorem wr_left (l rest : List AV) (cs : List AV) : ∀ (o : Nat), o + cs.length ≤ l.length → wr (l ++ rest) o cs = wr l o cs ++ rest := by
  intro o h
  apply List.ext_getElem?
  intro i
  rw [wr_getElem? _ _ _ (by rw [List.length_append]; omega)]
  by_cases hi : i < l.length
  · rw [List.getElem?_append_left hi, List.getElem?_append_left (by rw [wr_length]; exact hi), wr_getElem? _ _ _ h]
  · rw [List.getElem?_append_right (by omega), List.getElem?_append_right (by rw [wr_length]; omega), wr_length, if_neg (by omega)]
theorem OwnE.set (h : OwnE E m H v xs) (hsz : 0 < E.sz) (he : asliceElem T t = some (e, E.sz)) {i : Nat} (hi : i < xs.length) {k : IntKind} {z : Int} (hz : z = i) (hte : asize T te = some E.sz) {x : α} {a : AV} (hs : a.solid = true) (hc : a.cells = E.cells x) :
    ∃ b o H2, aindexAddr T t v (.int k z) = some (.ptr b o) ∧ astore T H te (.ptr b o) a = some H2 ∧ OwnE E m H2 v (xs.set i x) ∧ Keep (some b) H H2 ∧ v.blk = some b := by
  subst hz
  rcases h with ⟨rfl, h0⟩ | ⟨b, n, st, rest, rfl, h1, h2, h4, h3⟩
  · exfalso
    have := Enc.row_length (E := E) xs
    rw [h0] at this
    have := Nat.mul_pos (show 0 < xs.length by omega) hsz
    simp at *; omega
  · rw [Enc.row_length] at h3
    have hn : xs.length = n := Nat.eq_of_mul_eq_mul_right hsz h3
    subst hn
    have hlt := (List.getElem?_eq_some_iff.1 h2).1
    have hmul : (i + 1) * E.sz ≤ xs.length * E.sz := Nat.mul_le_mul_right _ hi
    rw [Nat.succ_mul] at hmul
    have hrl := Enc.row_length (E := E) xs
    refine ⟨b, 0 + i * E.sz, List.set H b ⟨wr (E.row xs ++ rest) (0 + i * E.sz) (E.cells x), E.sz, st⟩, ?_, ?_, .inr ⟨b, xs.length, st, rest, rfl, h1, ?_, h4, by rw [Enc.row_length, List.length_set]⟩, ⟨by simp, fun c hc hx => by rw [List.getElem?_set_ne (by intro e; subst e; exact hx rfl)]⟩, rfl⟩
    · simp only [aindexAddr, he]
      rw [if_pos ⟨by omega, by omega⟩, Int.toNat_natCast]
    · simp only [astore, hte, h2, h4, hs, hc, E.len, true_and]
      rw [if_pos (by rw [List.length_append]; omega)]
    · rw [List.getElem?_set_self hlt, Nat.zero_add, wr_left _ _ _ _ (by rw [E.len]; omega), Enc.row_set hi]
/-- The first of them alone. -/
theorem OwnE.first (h : OwnE E m H v xs) (hsz : 0 < E.sz) (he : asliceElem T t = some (e, E.sz)) {i : Nat} (hi : i ≤ xs.length) {k : IntKind} {z : Int} (hz : z = i) :
    ∃ v', aslice T H t v none (some (.int k z)) none = some v' ∧ OwnE E m H v' (xs.take i) ∧ (v'.blk = v.blk) := by
  have h1 : ∀ d, abound d none = some d := fun _ => rfl
  have h2 : ∀ d, abound d (some (.int k z)) = some i := fun d => abound_nat i hz
  rcases h with ⟨rfl, h0⟩ | ⟨b, n, st, rest, rfl, g1, g2, g4, g3⟩
  · have hx : xs.length = 0 := by
      have := Enc.row_length (E := E) xs
      rw [h0] at this
      rcases Nat.eq_zero_or_pos xs.length with h | h
      · exact h
      · have := Nat.mul_pos h hsz; simp at *; omega
    have : xs = [] := List.eq_nil_of_length_eq_zero hx
    subst this
    have : i = 0 := by simpa using hi
    subst this
    exact ⟨.nils, by simp only [aslice, he, h1, h2]; simp, by simpa using OwnE.nils E m H, rfl⟩
  · rw [Enc.row_length] at g3
    have hn : xs.length = n := Nat.eq_of_mul_eq_mul_right hsz g3
    subst hn
    have hroom : roomOf H b 0 E.sz xs.length none i = true := by unfold roomOf; simp; exact .inl hi
    have hesz : eszOk H b E.sz = true := by simp [eszOk, g2, own_alive g4]
    refine ⟨.sl b 0 i none, by simp only [aslice, he, h1, h2]; rw [if_pos ⟨by omega, hroom, hesz⟩, if_pos trivial], .inr ⟨b, i, st, E.row (xs.drop i) ++ rest, rfl, g1, ?_, g4, by rw [Enc.row_length, List.length_take, Nat.min_eq_left hi]⟩, rfl⟩
    rw [g2, ← List.append_assoc, ← Enc.row_append, List.take_append_drop]
/-- What stands behind is set to zero. -/
theorem OwnE.clear (h : OwnE E m H v xs) (hsz : 0 < E.sz) (he : asliceElem T t = some (e, E.sz)) {i : Nat} (hi : i ≤ xs.length) {k : IntKind} {z : Int} (hz : z = i) {zs : List AV} (hzs : azero T e = some zs) (hzl : zs.length = E.sz) :
    ∃ v' H2 v2, aslice T H t v (some (.int k z)) none none = some v' ∧ aclear T H t v' = some H2 ∧ Keep v.blk H H2 ∧ aslice T H2 t v none (some (.int k z)) none = some v2 ∧ OwnE E m H2 v2 (xs.take i) ∧ v2.blk = v.blk := by
  have h1 : ∀ d, abound d none = some d := fun _ => rfl
  have h2 : ∀ d, abound d (some (.int k z)) = some i := fun d => abound_nat i hz
  obtain ⟨v2, f1, f2, f3⟩ := h.first hsz he hi (k := k) hz
  rcases h with ⟨rfl, h0⟩ | ⟨b, n, st, rest, rfl, g1, g2, g4, g3⟩
  · have hx : xs.length = 0 := by
      have := Enc.row_length (E := E) xs
      rw [h0] at this
      rcases Nat.eq_zero_or_pos xs.length with h | h
      · exact h
      · have := Nat.mul_pos h hsz; simp at *; omega
    obtain rfl : i = 0 := by omega
    exact ⟨.nils, H, v2, by simp only [aslice, he, h1, h2]; simp [hx], by simp only [aclear, he], Keep.refl _ _, f1, f2, f3⟩
  · rw [Enc.row_length] at g3
    have hn : xs.length = n := Nat.eq_of_mul_eq_mul_right hsz g3
    subst hn
    have hroom : roomOf H b 0 E.sz xs.length none xs.length = true := by unfold roomOf; simp
    have hesz : eszOk H b E.sz = true := by simp [eszOk, g2, own_alive g4]
    have hlt := (List.getElem?_eq_some_iff.1 g2).1
    have hrl := Enc.row_length (E := E) xs
    by_cases hin : i = xs.length
    · by_cases h0 : xs.length = 0
      · refine ⟨.sl b 0 xs.length none, H, v2, by simp only [aslice, he, h1, h2]; rw [if_pos ⟨hi, hroom, hesz⟩, if_pos (by omega)], by simp only [aclear, he]; rw [if_pos h0], Keep.refl _ _, f1, f2, f3⟩
      · exact ⟨.emp, H, v2, by simp only [aslice, he, h1, h2]; rw [if_pos ⟨hi, hroom, hesz⟩, if_neg (by omega), if_pos hin], by simp only [aclear, he], Keep.refl _ _, f1, f2, f3⟩
    · have hlt2 : i < xs.length := by omega
      have hmul : (xs.length - i) * E.sz = xs.length * E.sz - i * E.sz := Nat.sub_mul ..
      have hmul2 : i * E.sz ≤ xs.length * E.sz := Nat.mul_le_mul_right _ hi
      have hrep : (reps (xs.length - i) zs).length = (xs.length - i) * E.sz := by rw [reps_length, hzl]
      have g2' : (List.set H b ⟨wr (E.row xs ++ rest) (0 + i * E.sz) (reps (xs.length - i) zs), E.sz, st⟩ : Heap)[b]? = some ⟨wr (E.row xs ++ rest) (0 + i * E.sz) (reps (xs.length - i) zs), E.sz, st⟩ := List.getElem?_set_self hlt
      refine ⟨.sl b (0 + i * E.sz) (xs.length - i) none, List.set H b ⟨wr (E.row xs ++ rest) (0 + i * E.sz) (reps (xs.length - i) zs), E.sz, st⟩, .sl b 0 i none, ?_, ?_, ⟨by simp, fun c hc hx => by rw [List.getElem?_set_ne (by intro e; subst e; exact hx rfl)]⟩, ?_, ?_, rfl⟩
      · simp only [aslice, he, h1, h2]
        rw [if_pos ⟨hi, hroom, hesz⟩]
        by_cases h0 : i = 0
        · subst h0; simp
        · rw [if_neg h0, if_neg hin]; rfl
      · simp only [aclear, he, hzs, g2]
        rw [if_neg (by omega), if_pos ⟨g4, by rw [List.length_append]; omega⟩]
      · have hroom' : roomOf (List.set H b ⟨wr (E.row xs ++ rest) (0 + i * E.sz) (reps (xs.length - i) zs), E.sz, st⟩) b 0 E.sz xs.length none i = true := by unfold roomOf; simp; exact .inl hi
        have hesz' : eszOk (List.set H b ⟨wr (E.row xs ++ rest) (0 + i * E.sz) (reps (xs.length - i) zs), E.sz, st⟩) b E.sz = true := by
          unfold eszOk; rw [g2']; simp [own_alive g4]
        simp only [aslice, he, h1, h2]; rw [if_pos ⟨by omega, hroom', hesz'⟩, if_pos trivial]
      · have hlenT : (E.row (xs.take i)).length = i * E.sz := by rw [Enc.row_length, List.length_take, Nat.min_eq_left (by omega)]
        refine .inr ⟨b, i, st, (wr (E.row xs ++ rest) (0 + i * E.sz) (reps (xs.length - i) zs)).drop (i * E.sz), rfl, g1, ?_, g4, hlenT⟩
        rw [g2']
        congr 2
        have htk : E.row (xs.take i) = (wr (E.row xs ++ rest) (0 + i * E.sz) (reps (xs.length - i) zs)).take (i * E.sz) := by
          rw [← Enc.row_take]
          apply List.ext_getElem?
          intro j
          rw [List.getElem?_take, List.getElem?_take]
          split
          · rename_i hj
            rw [wr_getElem? _ _ _ (by rw [List.length_append]; omega), if_neg (by omega), List.getElem?_append_left (by omega)]
          · rfl
        rw [htk, List.take_append_drop]
end

section
variable {α : Type} {E : Enc α} {T : TypeId → Option TD} {H : Heap} {t e : TypeId} {xs : List α} {m : Nat} {v : AV}
end
/-- Cells as a thing's own. -/
def Rp.enc {α : Type} (E : Enc α) : Rp α := ⟨E.sz, fun _ c x => c = E.cells x, fun h => by rw [h]; exact E.len _, fun h a ha => by rw [h] at ha; exact AV.flat_one (E.flat _ a ha), fun _ h => h⟩
section
variable {α : Type} {E : Enc α} {H : Heap} {xs : List α} {m : Nat} {v : AV}
theorem OwnE.of (h : OwnE E m H v xs) : OwnOf m (fun _ => True) (Rp.enc E) H v xs := by
  refine ⟨xs.map E.cells, ?_, ?_⟩
  · rw [← List.flatMap_def]; exact h
  · exact All2.map_left.2 (by
      clear h
      induction xs with
      | nil => trivial
      | cons x xs ih => exact ⟨fun _ _ => rfl, ih⟩)
theorem OwnE.to (h : OwnOf m (fun _ => True) (Rp.enc E) H v xs) : OwnE E m H v xs := by
  obtain ⟨els, h1, h2⟩ := h.now
  have : els = xs.map E.cells := All2.of_fun h2
  subst this
  rw [← List.flatMap_def] at h1; exact h1
end

/-! ### A heap whose last blocks are known -/
theorem hget0 (H : Heap) (L : List Blk) : (H ++ L : List Blk)[H.length]? = L[0]? := by rw [List.getElem?_append_right (Nat.le_refl _), Nat.sub_self]
theorem hgetk (H : Heap) (L : List Blk) (k : Nat) : (H ++ L : List Blk)[H.length + k]? = L[k]? := by rw [List.getElem?_append_right (Nat.le_add_right _ _), Nat.add_sub_cancel_left]
theorem hset0 (H : Heap) (L : List Blk) (B : Blk) : List.set (H ++ L : List Blk) H.length B = (H ++ L.set 0 B : List Blk) := by
  rw [List.set_append_right _ _ (Nat.le_refl _), Nat.sub_self]
theorem hsetk (H : Heap) (L : List Blk) (k : Nat) (B : Blk) : List.set (H ++ L : List Blk) (H.length + k) B = (H ++ L.set k B : List Blk) := by
  rw [List.set_append_right _ _ (Nat.le_add_right _ _), Nat.add_sub_cancel_left]
theorem hlen (H : Heap) (L : List Blk) : (H ++ L : List Blk).length = H.length + L.length := List.length_append
theorem hcat (H : Heap) (L M : List Blk) : ((H ++ L : List Blk) ++ M : List Blk) = (H ++ (L ++ M) : List Blk) := List.append_assoc ..
theorem Keep.app (x : Option Nat) (H : Heap) (L : List Blk) : Keep x H (H ++ L) := ⟨by simp, fun b hb _ => List.getElem?_append_left hb⟩
theorem astore_hk (T : TypeId → Option TD) (H : Heap) (L : List Blk) (t : TypeId) (k o : Nat) (v : AV) : astore T (H ++ L : List Blk) t (.ptr (H.length + k) o) v = match asize T t, L[k]? with
    | some n, some B => if B.st.own = true ∧ v.solid = true ∧ v.cells.length = n ∧ o + v.cells.length ≤ B.cells.length then some (H ++ L.set k ⟨wr B.cells o v.cells, B.esz, B.st⟩ : List Blk) else none
    | _, _ => none := by
  unfold astore
  cases asize T t with
  | none => rfl
  | some n => simp only [hgetk, hsetk]; cases L[k]? <;> rfl
theorem astore_h0 (T : TypeId → Option TD) (H : Heap) (L : List Blk) (t : TypeId) (o : Nat) (v : AV) : astore T (H ++ L : List Blk) t (.ptr H.length o) v = match asize T t, L[0]? with
    | some n, some B => if B.st.own = true ∧ v.solid = true ∧ v.cells.length = n ∧ o + v.cells.length ≤ B.cells.length then some (H ++ L.set 0 ⟨wr B.cells o v.cells, B.esz, B.st⟩ : List Blk) else none
    | _, _ => none := astore_hk T H L t 0 o v
theorem astore_get {H : Heap} {b : Nat} {B : Blk} (hb : H[b]? = some B) (T : TypeId → Option TD) (t : TypeId) (o : Nat) (v : AV) : astore T H t (.ptr b o) v = match asize T t with
    | some n => if B.st.own = true ∧ v.solid = true ∧ v.cells.length = n ∧ o + v.cells.length ≤ B.cells.length then some (List.set H b ⟨wr B.cells o v.cells, B.esz, B.st⟩) else none
    | none => none := by
  unfold astore
  cases asize T t with
  | none => rfl
  | some n => simp only [hb]
theorem hread0 (H : Heap) (L : List Blk) (o n : Nat) : Heap.read (H ++ L : List Blk) H.length o n = Heap.read L 0 o n := by unfold Heap.read; rw [hget0]
theorem hreadk (H : Heap) (L : List Blk) (k o n : Nat) : Heap.read (H ++ L : List Blk) (H.length + k) o n = Heap.read L k o n := by unfold Heap.read; rw [hgetk]
theorem read_cons0 (B : Blk) (L : List Blk) (o n : Nat) : Heap.read (B :: L : List Blk) 0 o n = if B.st.alive = true ∧ o + n ≤ B.cells.length then some ((B.cells.drop o).take n) else none := rfl
theorem read_consk (B : Blk) (L : List Blk) (k o n : Nat) : Heap.read (B :: L : List Blk) (k + 1) o n = Heap.read L k o n := rfl
theorem read_app {H : Heap} {b : Nat} {B : Blk} (hb : H[b]? = some B) (L : List Blk) (o n : Nat) : Heap.read (H ++ L : List Blk) b o n = if B.st.alive = true ∧ o + n ≤ B.cells.length then some ((B.cells.drop o).take n) else none := read_get (get_app hb L) o n
theorem set_app {H : Heap} {b : Nat} {B : Blk} (hb : H[b]? = some B) (L : List Blk) (C : Blk) : List.set (H ++ L : List Blk) b C = (List.set H b C ++ L : List Blk) := by
  rw [List.set_append_left _ _ (List.getElem?_eq_some_iff.1 hb).1]

/-! ### Loops: the slots that nothing in them is written to -/
def Agree (L : List Nat) (fr fr' : Fr) : Prop := ∀ t ∈ L, fr'.get t = fr.get t
theorem Agree.refl (L : List Nat) (fr : Fr) : Agree L fr fr := fun _ _ => rfl
theorem Agree.put {L : List Nat} {fr fr' : Fr} {d : Nat} {v : AV} (h : L.all (fun t => t != d) = true) (hs : Agree L fr fr') : Agree L fr (fr'.put (some d) v) := fun t ht => by
  rw [Fr.get_put, if_neg (by simpa using List.all_eq_true.1 h t ht)]; exact hs t ht
theorem WX_loopS {P : Program} {n : Nat} {c : Code} {fr : Fr} {H : Heap} {Q : Exit → Fr → Heap → Prop} (L : List Nat) (I : Nat → Fr → Heap → Prop) (m : Nat) (h0 : I m fr H)
    (hs : ∀ m fr' H' (A : Fr → Prop) (R : Fr → Heap → Prop), (∀ fr2 d v, L.all (fun t => t != d) = true → A fr2 → A (fr2.put (some d) v)) → A fr' → (∀ t ∈ L, fr'.get t = fr.get t) → (∀ fr2 H2, A fr2 → ∀ m', m' < m → I m' fr2 H2 → R fr2 H2) → I m fr' H' →
      WX P n c fr' H' (XThen R Q)) : WX P n (.loop c) fr H Q :=
  WX_loop (fun m fr' H' => Agree L fr fr' ∧ I m fr' H') m ⟨.refl _ _, h0⟩ fun m fr' H' ⟨ha, hi⟩ =>
    hs m fr' H' (Agree L fr) (loopK (fun m fr' H' => Agree L fr fr' ∧ I m fr' H') m) (fun fr2 d v h k => k.put h) ha ha (fun fr2 H2 h1 m' h2 h3 => ⟨m', h2, h1, h3⟩) hi
theorem IfB_ndec {c : Prop} {_ : Decidable c} {p q : XP} {fr : Fr} {H : Heap} {Q : Exit → Fr → Heap → Prop} (h1 : ¬ c → p fr H Q) (h2 : c → q fr H Q) : IfB (.bool (!decide c)) p q fr H Q :=
  IfB_not (fun h => h1 (of_decide_eq_false h)) (fun h => h2 (of_decide_eq_true h))
theorem false_eq_decide (p : Prop) {_ : Decidable p} : (false = decide p) = ¬ p := by simp [eq_comm]
theorem true_eq_decide (p : Prop) {_ : Decidable p} : (true = decide p) = p := by simp [eq_comm]
/-- A call whose answer is a value, and that leaves memory as it was. -/
theorem WC.call {P : Program} {f : FuncId} {args : List AV} {H G : Heap} {val : AV} {K : AV → Heap → Prop} (h : WC P f args H fun r H' => r = val ∧ H' = G) (hk : K val G) : WC P f args H K := h.mono fun r H' ⟨h1, h2⟩ => by rw [h1, h2]; exact hk
/-- A slice of no elements may be nil, and may not. -/
theorem WC_lst0 {P : Program} {f : FuncId} {H : Heap} {K : AV → Heap → Prop} {pre post : List AV} (h1 : WC P f (pre ++ .nils :: post) H K) (h2 : WC P f (pre ++ .emp :: post) H K) : WC P f (pre ++ .lst 0 [] :: post) H K := by
  refine ⟨h1.1, fun base φ w vs hR hv => ?_⟩
  have hlen := hv.1
  have key : ∀ a : AV, (∀ v, vs[pre.length]? = some v → RV φ a v) → RVs φ (pre ++ a :: post) vs := fun a ha => by
    refine ⟨by simpa using hlen, fun i x v hx hxv => ?_⟩
    by_cases hi : i = pre.length
    · subst hi
      rw [List.getElem?_append_right (Nat.le_refl _), Nat.sub_self] at hx
      simp at hx; subst hx; exact ha v hxv
    · refine hv.2 i x v ?_ hxv
      rcases Nat.lt_or_ge i pre.length with h | h
      · rw [List.getElem?_append_left h] at hx ⊢; exact hx
      · rw [List.getElem?_append_right h] at hx ⊢
        have : i - pre.length = (i - pre.length - 1) + 1 := by omega
        rw [this, List.getElem?_cons_succ] at hx ⊢; exact hx
  have hlt : pre.length < vs.length := by simp at hlen; omega
  have hrv := hv.2 pre.length (.lst 0 []) vs[pre.length] (by rw [List.getElem?_append_right (Nat.le_refl _), Nat.sub_self]; rfl) (List.getElem?_eq_getElem hlt)
  have get : ∀ v, vs[pre.length]? = some v → v = vs[pre.length] := fun v hv => by rw [List.getElem?_eq_getElem hlt] at hv; simpa using hv.symm
  generalize vs[pre.length] = u at hrv get
  cases hrv
  · exact h2.2 base φ w vs hR (key .emp fun v hv => by rw [get v hv]; exact .emp _ _)
  · exact h1.2 base φ w vs hR (key .nils fun v hv => by rw [get v hv]; exact .nils)
  · exact h2.2 base φ w vs hR (key .emp fun v hv => by rw [get v hv]; exact .emp _ _)
theorem Keep.via {x : Option Nat} {H I J : Heap} (h : Keep none H I) (k : Keep x I J) (hx : ∀ b, x = some b → H.length ≤ b) : Keep none H J := by
  cases x with
  | none => exact h.trans k
  | some b => exact Keep.new h k (hx b rfl)
theorem Thaw.of_eq {m : Nat} {H : Heap} {a c : AV} (h : a = c) (hf : a.flat = true) : Thaw m H a c := h ▸ .atom a hf

theorem len2 {α : Type} {l : List α} (h : l.length = 2) : ∃ a0 a1, l = [a0, a1] := by
  match l, h with
  | [a0, a1], _ => exact ⟨a0, a1, rfl⟩
theorem len5 {α : Type} {l : List α} (h : l.length = 5) : ∃ a0 a1 a2 a3 a4, l = [a0, a1, a2, a3, a4] := by
  match l, h with
  | [a0, a1, a2, a3, a4], _ => exact ⟨a0, a1, a2, a3, a4, rfl⟩
theorem len8 {α : Type} {l : List α} (h : l.length = 8) : ∃ a0 a1 a2 a3 a4 a5 a6 a7, l = [a0, a1, a2, a3, a4, a5, a6, a7] := by
  match l, h with
  | [a0, a1, a2, a3, a4, a5, a6, a7], _ => exact ⟨a0, a1, a2, a3, a4, a5, a6, a7, rfl⟩
/-! ### Inputs -/
section
variable {T : TypeId → Option TD} {n : Nat} {t e : TypeId} {l : List AV}
theorem InpP.str (hk : tk T t = .str) (h : InpP T (n + 1) t l) : ∃ s, l = [.str s] ∧ s.length ≤ reachBytes := by
  simp only [InpP, hk] at h; exact h
theorem InpP.int {k : IntKind} (hk : tk T t = .int k) (h : InpP T (n + 1) t l) : ∃ v, l = [.int k v] ∧ (Lit.int k v).wf = true := by
  simp only [InpP, hk] at h; exact h
theorem InpP.bool (hk : tk T t = .bool) (h : InpP T (n + 1) t l) : ∃ b, l = [.bool b] := by
  simp only [InpP, hk] at h; exact h
theorem InpP.struct {fs : List (Nat × TypeId)} (hk : tk T t = .struct fs) (h : InpP T (n + 1) t l) : ∃ parts : List (List AV), l = parts.flatten ∧ parts.length = fs.length ∧ ∀ (i : Nat) f p, fs[i]? = some f → parts[i]? = some p → InpP T n f.2 p := by
  simp only [InpP, hk] at h
  obtain ⟨parts, h1, h2, h3⟩ := h
  exact ⟨parts, h1, h2, fun i f p hf hp => (h3 i f p hf hp).2⟩
theorem InpP.slice {α : Type} {E : Enc α} {Pr : α → Prop} (hk : tk T t = .slice e) (hel : ∀ x, InpP T n e x → ∃ a, x = E.cells a ∧ Pr a) (h : InpP T (n + 1) t l) : ∃ xs : List α, l = [E.lst xs] ∧ (∀ a ∈ xs, Pr a) ∧ xs.length ≤ maxLen ∧ ∀ d, T e = some d → xs.length * d.bytes ≤ reachBytes := by
  simp only [InpP, hk] at h
  obtain ⟨sz, els, h1, h2, h3, h4⟩ := h
  have key : ∀ els : List (List AV), (∀ x ∈ els, InpP T n e x) → ∃ xs : List α, els.flatten = E.row xs ∧ xs.length = els.length ∧ ∀ a ∈ xs, Pr a := by
    intro els
    induction els with
    | nil => intro _; exact ⟨[], rfl, rfl, by simp⟩
    | cons x els ih =>
      intro h
      obtain ⟨xs, k1, k2, k3⟩ := ih fun y hy => h y (by simp [hy])
      obtain ⟨a, rfl, ha⟩ := hel x (h x (by simp))
      refine ⟨a :: xs, by rw [List.flatten_cons, k1, Enc.row_cons], by simp [k2], fun b hb => ?_⟩
      rcases List.mem_cons.1 hb with rfl | hb
      · exact ha
      · exact k3 b hb
  obtain ⟨xs, k1, k2, k3⟩ := key els fun x hx => (h4 x hx).2
  exact ⟨xs, by rw [h1, k1, ← k2]; rfl, k3, by rw [k2]; exact h2⟩
theorem InpPV.one {a : AV} (hk : ∀ fs, tk T t ≠ .struct fs) (h : InpPV T n t a) : InpP T n t [a] := by
  unfold InpPV at h
  split at h
  · rename_i fs hfs; exact absurd hfs (hk fs)
  · exact h
theorem InpPV.agg {a : AV} {fs : List (Nat × TypeId)} (hk : tk T t = .struct fs) (h : InpPV T n t a) : ∃ l, a = .agg l ∧ InpP T n t l := by
  unfold InpPV at h; simp only [hk] at h; exact h
theorem InpPV.str {a : AV} (hk : tk T t = .str) (h : InpPV T (n + 1) t a) : ∃ s, a = .str s ∧ s.length ≤ reachBytes := by
  obtain ⟨s, h1, h2⟩ := InpP.str hk (h.one (by rw [hk]; simp)); simp only [List.cons.injEq, and_true] at h1; exact ⟨s, h1, h2⟩
theorem InpPV.int {a : AV} {k : IntKind} (hk : tk T t = .int k) (h : InpPV T (n + 1) t a) : ∃ v, a = .int k v ∧ (Lit.int k v).wf = true := by
  obtain ⟨s, h1, h2⟩ := InpP.int hk (h.one (by rw [hk]; simp)); simp only [List.cons.injEq, and_true] at h1; exact ⟨s, h1, h2⟩
theorem InpPV.bool {a : AV} (hk : tk T t = .bool) (h : InpPV T (n + 1) t a) : ∃ b, a = .bool b := by
  obtain ⟨s, h1⟩ := InpP.bool hk (h.one (by rw [hk]; simp)); simp only [List.cons.injEq, and_true] at h1; exact ⟨s, h1⟩
theorem InpPV.slice {α : Type} {E : Enc α} {Pr : α → Prop} {a : AV} (hk : tk T t = .slice e) (hel : ∀ x, InpP T n e x → ∃ a, x = E.cells a ∧ Pr a) (h : InpPV T (n + 1) t a) : ∃ xs : List α, a = E.lst xs ∧ (∀ a ∈ xs, Pr a) ∧ xs.length ≤ maxLen ∧ ∀ d, T e = some d → xs.length * d.bytes ≤ reachBytes := by
  obtain ⟨s, h1, h2⟩ := InpP.slice (E := E) hk hel (h.one (by rw [hk]; simp)); simp only [List.cons.injEq, and_true] at h1; exact ⟨s, h1, h2⟩
end

/-! ### Things -/
def Enc.int (k : IntKind) : Enc Int := ⟨1, fun n => [.int k n], fun _ => rfl, fun _ a ha => by simp at ha; subst ha; rfl⟩
def Enc.str : Enc (List UInt8) := ⟨1, fun s => [.str s], fun _ => rfl, fun _ a ha => by simp at ha; subst ha; rfl⟩
def Enc.u8 : Enc UInt8 := ⟨1, fun b => [.int .u8 b.toNat], fun _ => rfl, fun _ a ha => by simp at ha; subst ha; rfl⟩
def Enc.bool : Enc Bool := ⟨1, fun b => [.bool b], fun _ => rfl, fun _ a ha => by simp at ha; subst ha; rfl⟩
def Enc.sl {α : Type} (E : Enc α) : Enc (List α) := ⟨1, fun xs => [E.lst xs], fun _ => rfl, fun _ a ha => by simp at ha; subst ha; rfl⟩
end Go.Proofs.PI

