import Derived.Test.YtkmkhiipiflelaaPiI
/-! PI, part K: what is kept, what is owned, what a slice reads as. -/
set_option linter.unusedVariables false
set_option linter.unusedSimpArgs false
namespace Go.Proofs.PI

/-- Old blocks are as they were, but perhaps for one. -/
structure Keep (x : Option Nat) (H H' : Heap) : Prop where
  len : H.length ≤ H'.length
  at_ : ∀ b, b < H.length → x ≠ some b → H'[b]? = H[b]?
theorem Keep.refl (x : Option Nat) (H : Heap) : Keep x H H := ⟨Nat.le_refl _, fun _ _ _ => rfl⟩
theorem Keep.trans {x : Option Nat} {H I J : Heap} (h : Keep x H I) (k : Keep x I J) : Keep x H J :=
  ⟨Nat.le_trans h.len k.len, fun b hb hx => (k.at_ b (Nat.lt_of_lt_of_le hb h.len) hx).trans (h.at_ b hb hx)⟩
theorem Keep.snoc (x : Option Nat) (H : Heap) (B : Blk) : Keep x H (H ++ [B]) := ⟨by simp, fun b hb _ => List.getElem?_append_left hb⟩
theorem Keep.weak {x : Option Nat} {H I : Heap} (h : Keep none H I) : Keep x H I := ⟨h.len, fun b hb _ => h.at_ b hb (by simp)⟩
/-- What was changed is new. -/
theorem Keep.new {b : Nat} {H I J : Heap} (h : Keep none H I) (k : Keep (some b) I J) (hb : H.length ≤ b) : Keep none H J :=
  ⟨Nat.le_trans h.len k.len, fun c hc _ => (k.at_ c (Nat.lt_of_lt_of_le hc h.len) (by simp; omega)).trans (h.at_ c hc (by simp))⟩
theorem Keep.set {b : Nat} {H I : Heap} (h : Keep none H I) (hb : H.length ≤ b) (B : Blk) : Keep none H (I.set b B) :=
  ⟨by simpa using h.len, fun c hc _ => by rw [List.getElem?_set_ne (by omega)]; exact h.at_ c hc (by simp)⟩
theorem Keep.get {x : Option Nat} {H H' : Heap} (h : Keep x H H') {b : Nat} {B : Blk} (hb : H[b]? = some B) (hx : x ≠ some b) : H'[b]? = some B :=
  (h.at_ b (List.getElem?_eq_some_iff.1 hb).1 hx).trans hb
theorem Keep.read {x : Option Nat} {H H' : Heap} (h : Keep x H H') {b o n : Nat} {l : List AV} (hr : H.read b o n = some l) (hx : x ≠ some b) : H'.read b o n = some l := by
  unfold Heap.read at hr ⊢
  cases hb : H[b]? with
  | none => rw [hb] at hr; cases hr
  | some B => rw [h.get hb hx]; rw [hb] at hr; exact hr

def AV.blk : AV → Option Nat
  | .sl b _ _ _ => some b
  | .ptr b _ => some b
  | _ => none

/-- A slice reads as these cells: n elements of that size. -/
def Sl (H : Heap) (v : AV) (sz n : Nat) (cs : List AV) : Prop :=
  cs.length = n * sz ∧ ((v = .nils ∧ n = 0) ∨ (v = .emp ∧ n = 0) ∨ ∃ b o cap, v = .sl b o n cap ∧ H.read b o (n * sz) = some cs)
theorem Sl.keep {x : Option Nat} {H H' : Heap} {v : AV} {sz n : Nat} {cs : List AV} (h : Sl H v sz n cs) (k : Keep x H H') (hx : x ≠ v.blk ∨ v.blk = none) : Sl H' v sz n cs := by
  refine ⟨h.1, ?_⟩
  rcases h.2 with h | h | ⟨b, o, cap, rfl, hr⟩
  · exact .inl h
  · exact .inr (.inl h)
  · refine .inr (.inr ⟨b, o, cap, rfl, k.read hr ?_⟩)
    rcases hx with hx | hx
    · exact hx
    · cases hx

theorem own_alive {st : St} (h : st.own = true) : st.alive = true := by cases st <;> simp_all [St.own, St.alive]
/-- A slice of the call's own, growing: all of its block, from the number m on. -/
def Own (m : Nat) (H : Heap) (v : AV) (sz : Nat) (cs : List AV) : Prop :=
  (v = .nils ∧ cs = []) ∨ ∃ b n st rest, v = .sl b 0 n none ∧ m ≤ b ∧ H[b]? = some ⟨cs ++ rest, sz, st⟩ ∧ st.own = true ∧ cs.length = n * sz
theorem Own.whole {m : Nat} {H : Heap} {sz : Nat} {cs : List AV} {b n : Nat} {st : St} (hm : m ≤ b) (hb : H[b]? = some ⟨cs, sz, st⟩) (hst : st.own = true) (hn : cs.length = n * sz) : Own m H (.sl b 0 n none) sz cs :=
  .inr ⟨b, n, st, [], rfl, hm, by rw [List.append_nil]; exact hb, hst, hn⟩
theorem Own.keep {m : Nat} {x : Option Nat} {H H' : Heap} {v : AV} {sz : Nat} {cs : List AV} (h : Own m H v sz cs) (k : Keep x H H') (hx : ∀ b, x = some b → v.blk ≠ some b) : Own m H' v sz cs := by
  rcases h with h | ⟨b, n, st, rest, rfl, h1, h2, h3⟩
  · exact .inl h
  · exact .inr ⟨b, n, st, rest, rfl, h1, k.get h2 (fun e => hx b e rfl), h3⟩
theorem Own.sl {m : Nat} {H : Heap} {v : AV} {sz : Nat} {cs : List AV} (h : Own m H v sz cs) : ∃ n, Sl H v sz n cs := by
  rcases h with ⟨rfl, rfl⟩ | ⟨b, n, st, rest, rfl, h1, h2, h4, h3⟩
  · exact ⟨0, by simp, .inl ⟨rfl, rfl⟩⟩
  · refine ⟨n, h3, .inr (.inr ⟨b, 0, none, rfl, ?_⟩)⟩
    simp [Heap.read, h2, own_alive h4, h3, List.take_left' h3]
theorem Own.mono {m m' : Nat} {H : Heap} {v : AV} {sz : Nat} {cs : List AV} (h : Own m H v sz cs) (hm : m' ≤ m) : Own m' H v sz cs := by
  rcases h with h | ⟨b, n, st, rest, rfl, h1, h2⟩
  · exact .inl h
  · exact .inr ⟨b, n, st, rest, rfl, Nat.le_trans hm h1, h2⟩
theorem wr_behind (cs rest xs : List AV) : xs.length ≤ rest.length → wr (cs ++ rest) cs.length xs = cs ++ xs ++ rest.drop xs.length := by
  induction xs generalizing cs rest with
  | nil => intro _; simp [wr]
  | cons x xs ih =>
    intro h
    cases rest with
    | nil => simp at h
    | cons r rest =>
      have h' : xs.length ≤ rest.length := by simpa using h
      rw [wr, show (cs ++ r :: rest).set cs.length x = (cs ++ [x]) ++ rest by simp]
      have := ih (cs ++ [x]) rest h'
      rw [List.length_append, List.length_singleton] at this
      rw [this]; simp
theorem Own.nils (m : Nat) (H : Heap) (sz : Nat) : Own m H .nils sz [] := .inl ⟨rfl, rfl⟩

section
variable {T : TypeId → Option TD}
theorem asrc_sl {H : Heap} {tx e : TypeId} {x : AV} {sz n : Nat} {cs : List AV} (hk : tk T tx = .slice e) (h : Sl H x sz n cs) : asrc T H tx x sz = some (n, cs) := by
  unfold asrc
  rcases h.2 with ⟨rfl, rfl⟩ | ⟨rfl, rfl⟩ | ⟨b, o, cap, rfl, hr⟩
  · have := h.1; simp at this; subst this; simp [hk]
  · have := h.1; simp at this; subst this; simp [hk]
  · simp [hk, hr]
/-- An append to a slice of the call's own. -/
theorem append_own {m : Nat} {H : Heap} {v x : AV} {t tx e sz k : Nat} {cs xs z : List AV} {d : TD} (ho : Own m H v sz cs) (he : asliceElem T t = some (e, sz)) (hz : azero T e = some z) (hd : T e = some d) (hs : asrc T H tx x sz = some (k, xs))
    (hl : xs.length = k * sz) (hsz : 0 < sz) (hb : (cs.length + xs.length) * d.bytes ≤ 140737488355328) (hc : cs.length + xs.length ≤ 140737488355328) (hm : m ≤ H.length) {K : AV → Heap → Prop}
    (h : ∀ v' H', Own m H' v' sz (cs ++ xs) → Keep v.blk H H' → (∀ b, v'.blk = some b → v.blk = some b ∨ H.length ≤ b) → K v' H') :
    On (aappend T H t tx v x) K := by
  unfold On aappend
  rw [he]
  simp only [hz, hd, hs]
  have hxk : k * 1 ≤ k * sz := Nat.mul_le_mul_left _ hsz
  rcases ho with ⟨rfl, rfl⟩ | ⟨b, n, st, rest, rfl, h1, h2, h4, h3⟩
  · simp only [List.length_nil, Nat.zero_add] at hb hc
    by_cases hk : k = 0
    · have : xs = [] := List.eq_nil_of_length_eq_zero (by rw [hl, hk, Nat.zero_mul])
      subst this
      simp only [hk, if_true]
      exact h _ _ (.inl ⟨rfl, rfl⟩) (Keep.refl _ _) (fun b hb => by cases hb)
    · have hkb : k * d.bytes ≤ xs.length * d.bytes := Nat.mul_le_mul_right _ (by omega)
      simp only [hk, if_false, if_pos (show k * d.bytes ≤ 140737488355328 ∧ k ≤ 140737488355328 from ⟨by omega, by omega⟩)]
      exact h _ _ (Own.whole (st := .opn) hm (by simp) rfl (by simpa using hl)) (Keep.snoc _ _ _) (fun b hb => by simp only [AV.blk, Option.some.injEq] at hb; exact .inr (by omega))
  · by_cases hk : k = 0
    · have : xs = [] := List.eq_nil_of_length_eq_zero (by rw [hl, hk, Nat.zero_mul])
      subst this
      simp only [hk, if_true]
      exact h _ _ (.inr ⟨b, n, st, rest, rfl, h1, by simpa using h2, h4, by simpa using h3⟩) (Keep.refl _ _) (fun b hb => .inl hb)
    · have hmul : (n + k) * sz = n * sz + k * sz := Nat.add_mul ..
      have hkp : 0 < k * sz := Nat.mul_pos (by omega) hsz
      have hnk : (n + k) * 1 ≤ (n + k) * sz := Nat.mul_le_mul_left _ hsz
      have hbb : (n + k) * d.bytes ≤ (cs.length + xs.length) * d.bytes := Nat.mul_le_mul_right _ (by omega)
      have hread : H.read b 0 (n * sz) = some cs := by simp [Heap.read, h2, own_alive h4, h3, List.take_left' h3]
      have hblt : b < H.length := (List.getElem?_eq_some_iff.1 h2).1
      by_cases hroom : roomFor ⟨cs ++ rest, sz, st⟩ 0 n k sz none = true
      · have hr : xs.length ≤ rest.length := by
          simp only [roomFor, decide_true, Bool.and_true, Bool.and_eq_true, decide_eq_true_eq, List.length_append] at hroom
          omega
        simp only [hk, if_false, h2, hroom, if_true]
        refine h _ _ (.inr ⟨b, n + k, st, rest.drop xs.length, rfl, h1, ?_, h4, by simp [h3, hl, hmul]⟩) ⟨by simp, fun c hc hx => ?_⟩ (fun b' hb' => .inl hb')
        · rw [List.getElem?_set_self hblt, Nat.zero_add, ← h3, wr_behind _ _ _ hr]
        · rw [List.getElem?_set_ne (by intro e; subst e; exact hx rfl)]
      · simp only [hk, if_false, h2, hroom, Bool.false_eq_true, if_pos (show (n + k) * d.bytes ≤ 140737488355328 ∧ n + k ≤ 140737488355328 ∧ 0 < sz from ⟨by omega, by omega, hsz⟩), hread]
        by_cases hno : noRoomFor ⟨cs ++ rest, sz, st⟩ 0 n k sz none = true
        · simp only [hno, if_true]
          exact h _ _ (Own.whole (st := .opn) hm (by simp) rfl (by simp [h3, hl, hmul])) (Keep.snoc _ _ _) (fun b' hb' => by simp only [AV.blk, Option.some.injEq] at hb'; exact .inr (by omega))
        · simp only [hno, if_false, h4, and_self, if_true, Bool.false_eq_true]
          refine h _ _ (Own.whole (st := .opn) hm (by rw [List.getElem?_append_right (by simp)]; simp) rfl (by simp [h3, hl, hmul])) ⟨by simp, fun c hc hx => ?_⟩ (fun b' hb' => by simp only [AV.blk, Option.some.injEq] at hb'; exact .inr (by omega))
          rw [List.getElem?_append_left (by simpa using hc), List.getElem?_set_ne (by intro e; subst e; exact hx rfl)]
end
end Go.Proofs.PI

