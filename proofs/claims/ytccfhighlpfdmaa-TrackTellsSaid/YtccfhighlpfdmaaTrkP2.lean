import Derived.Test.YtccfhighlpfdmaaTrkN2
set_option linter.unusedSimpArgs false
set_option linter.unusedVariables false
set_option maxRecDepth 100000
set_option maxHeartbeats 4000000
namespace Go.Proofs.Ytccfhighlpfdmaa
open Go Go.Proofs Go.Proofs.PI
/-! ### the document's Change -/
structure RcS (m r xb p n : Nat) (H J : Heap) (qs : List (AV × AV)) (lt : List Tk) (pv : AV) (P : List Pu) : Prop where
  tk : TkO m J p n qs lt
  pu : OwnE puE m J pv P
  sp : ∀ b, pv.blk = some b → b ≠ p ∧ b ≠ xb ∧ ∀ (i : Nat) (x : AV × AV), qs[i]? = some x → x.2.blk ≠ some b
  bx : J[xb]? = some (⟨[.sl p 0 n none], 0, .full⟩ : Blk)
  br : J[r]? = some (⟨[.nils], 0, .full⟩ : Blk)
  low : r < m ∧ H.length ≤ m ∧ r < xb ∧ H.length ≤ r ∧ p ≠ xb ∧ ∀ (i : Nat) (x : AV × AV), qs[i]? = some x → x.2.blk ≠ some xb
  xl : xb < J.length
  kp : Keep none H J
/-- Names that are put aside. -/
structure RcW (m xb p : Nat) (J : Heap) (qs : List (AV × AV)) (pv w : AV) (Z : List Nm) : Prop where
  own : OwnE nmE m J w Z
  sp : ∀ b, w.blk = some b → b ≠ p ∧ b ≠ xb ∧ pv.blk ≠ some b ∧ ∀ (i : Nat) (x : AV × AV), qs[i]? = some x → x.2.blk ≠ some b
section
variable {m r xb p n : Nat} {H J : Heap} {qs : List (AV × AV)} {lt : List Tk} {pv w : AV} {P : List Pu} {Z : List Nm}
theorem RcW.nil : RcW m xb p J qs pv .nils [] := ⟨OwnE.nils _ _ _, fun b hb => by cases hb⟩
theorem TkO.other {k : Nat} {G : Heap} {l : List Tk} (o : TkO m J p k qs l) (h : ∀ b, b = p ∨ (∃ (i : Nat) (x : AV × AV), qs[i]? = some x ∧ x.2.blk = some b) → G[b]? = J[b]?) : TkO m G p k qs l := by
  refine ⟨o.len, o.ge, ?_, fun i x t hx ht => ?_, o.dis⟩
  · obtain ⟨st, rest, h1, h2⟩ := o.blk
    exact ⟨st, rest, by rw [h p (.inl rfl)]; exact h1, h2⟩
  · obtain ⟨g1, g2, g3, g4⟩ := o.el i x t hx ht
    refine ⟨g1, g2, fun hi => ?_, g4⟩
    rcases g3 hi with g3 | ⟨b, n, st, rest, e, q1, q2, q3⟩
    · exact .inl g3
    · exact .inr ⟨b, n, st, rest, e, q1, by rw [h b (.inr ⟨i, x, hx, by rw [e]; rfl⟩)]; exact q2, q3⟩
theorem RcS.blks (s : RcS m r xb p n H J qs lt pv P) {i : Nat} {x : AV × AV} {b : Nat} (hx : qs[i]? = some x) (hb : x.2.blk = some b) : m ≤ b ∧ b < J.length := by
  refine ⟨?_, s.tk.lts.2 i x b hx hb⟩
  have hi : i < lt.length := by rw [← s.tk.len]; exact (List.getElem?_eq_some_iff.1 hx).1
  obtain ⟨_, g2, g3, _⟩ := s.tk.el i x _ hx (List.getElem?_eq_getElem hi)
  by_cases h : i < n
  · exact (g3 h).ge hb
  · rw [g2 (by omega)] at hb; simp [Enc.lst, AV.blk] at hb
theorem RcS.grow (s : RcS m r xb p n H J qs lt pv P) {G : Heap} (k : Keep none J G) : RcS m r xb p n H G qs lt pv P :=
  ⟨s.tk.moved k, s.pu.keep0 k, s.sp, k.get s.bx (by simp), k.get s.br (by simp), s.low, Nat.lt_of_lt_of_le s.xl k.len, s.kp.trans k⟩
theorem RcW.grow (s : RcW m xb p J qs pv w Z) {G : Heap} (k : Keep none J G) : RcW m xb p G qs pv w Z := ⟨s.own.keep0 k, s.sp⟩
/-- Something else is written, at X. -/
theorem RcS.keep (s : RcS m r xb p n H J qs lt pv P) {G : Heap} {X : Option Nat} (k : Keep X J G) (hX : ∀ b, X = some b → m ≤ b ∧ b ≠ p ∧ b ≠ xb ∧ pv.blk ≠ some b ∧ ∀ (i : Nat) (x : AV × AV), qs[i]? = some x → x.2.blk ≠ some b) : RcS m r xb p n H G qs lt pv P := by
  have hlow := s.low
  have hsame : ∀ b, b < J.length → X ≠ some b → G[b]? = J[b]? := fun b h1 h2 => k.at_ b h1 h2
  refine ⟨s.tk.other fun b hb => ?_, s.pu.keep k fun b hb e => (hX b hb).2.2.2.1 e, s.sp, ?_, ?_, hlow, Nat.lt_of_lt_of_le s.xl k.len, ⟨Nat.le_trans s.kp.len k.len, fun b hb _ => ?_⟩⟩
  · rcases hb with rfl | ⟨i, x, hx, hxb⟩
    · exact hsame _ s.tk.lt fun e => (hX _ e).2.1 rfl
    · exact hsame _ (s.blks hx hxb).2 fun e => (hX _ e).2.2.2.2 i x hx hxb
  · rw [hsame _ s.xl fun e => (hX _ e).2.2.1 rfl]; exact s.bx
  · rw [hsame _ (List.getElem?_eq_some_iff.1 s.br).1 fun e => by have := (hX _ e).1; omega]; exact s.br
  · rw [hsame _ (Nat.lt_of_lt_of_le hb s.kp.len) fun e => by have := (hX _ e).1; omega]; exact s.kp.at_ b hb (by simp)
/-- Pushes grow. -/
theorem RcS.push (s : RcS m r xb p n H J qs lt pv P) {G : Heap} {pv2 : AV} {Q : List Pu} (k : Keep pv.blk J G) (o : OwnE puE m G pv2 Q) (hn : ∀ b, pv2.blk = some b → pv.blk = some b ∨ J.length ≤ b) : RcS m r xb p n H G qs lt pv2 Q := by
  have hlow := s.low
  have hsame : ∀ b, b < J.length → pv.blk ≠ some b → G[b]? = J[b]? := fun b h1 h2 => k.at_ b h1 h2
  refine ⟨s.tk.other fun b hb => ?_, o, fun b hb => ?_, ?_, ?_, hlow, Nat.lt_of_lt_of_le s.xl k.len, ⟨Nat.le_trans s.kp.len k.len, fun b hb _ => ?_⟩⟩
  · rcases hb with rfl | ⟨i, x, hx, hxb⟩
    · exact hsame _ s.tk.lt fun e => (s.sp _ e).1 rfl
    · exact hsame _ (s.blks hx hxb).2 fun e => (s.sp _ e).2.2 i x hx hxb
  · rcases hn b hb with h | h
    · exact s.sp b h
    · exact ⟨by have := s.tk.lt; omega, by have := s.xl; omega, fun i x hx e => by have := (s.blks hx e).2; omega⟩
  · rw [hsame _ s.xl fun e => (s.sp _ e).2.1 rfl]; exact s.bx
  · rw [hsame _ (List.getElem?_eq_some_iff.1 s.br).1 fun e => by have := s.pu.ge e; omega]; exact s.br
  · rw [hsame _ (Nat.lt_of_lt_of_le hb s.kp.len) fun e => by have := s.pu.ge e; omega]; exact s.kp.at_ b hb (by simp)
theorem RcW.push (s : RcS m r xb p n H J qs lt pv P) (q : RcW m xb p J qs pv w Z) {G : Heap} {pv2 : AV} (k : Keep pv.blk J G) (hn : ∀ b, pv2.blk = some b → pv.blk = some b ∨ J.length ≤ b) : RcW m xb p G qs pv2 w Z := by
  refine ⟨q.own.keep k fun b hb e => (q.sp b e).2.2.1 hb, fun b hb => ?_⟩
  obtain ⟨h1, h2, h3, h4⟩ := q.sp b hb
  exact ⟨h1, h2, fun e => by rcases hn b e with h | h; exact h3 h; have := q.own.lt hb; omega, h4⟩
/-- Names put aside grow. -/
theorem RcW.more (s : RcS m r xb p n H J qs lt pv P) (q : RcW m xb p J qs pv w Z) {G : Heap} {w2 : AV} {Z2 : List Nm} (k : Keep w.blk J G) (o : OwnE nmE m G w2 Z2) (hn : ∀ b, w2.blk = some b → w.blk = some b ∨ J.length ≤ b) : RcW m xb p G qs pv w2 Z2 ∧ RcS m r xb p n H G qs lt pv P := by
  refine ⟨⟨o, fun b hb => ?_⟩, s.keep k fun b hb => ⟨q.own.ge hb, (q.sp b hb).1, (q.sp b hb).2.1, (q.sp b hb).2.2.1, (q.sp b hb).2.2.2⟩⟩
  rcases hn b hb with h | h
  · exact q.sp b h
  · exact ⟨by have := s.tk.lt; omega, by have := s.xl; omega, fun e => by have := s.pu.lt e; omega, fun i x hx e => by have := (s.blks hx e).2; omega⟩
/-- They are stored. -/
theorem RcS.store (s : RcS m r xb p n H J qs lt pv P) (q : RcW m xb p J qs pv w Z) {i : Nat} {x : AV × AV} {t : Tk} (hx : qs[i]? = some x) (ht : lt[i]? = some t) (hi : i < n) {te : TypeId} (hte : asize T te = some 1) :
    ∃ G, astore T J te (.ptr p (i * 2 + 1)) w = some G ∧ RcS m r xb p n H G (qs.set i (x.1, w)) (lt.set i ⟨t.on, Z⟩) pv P := by
  have hlow := s.low
  have hon := (s.tk.el i x t hx ht).1
  obtain ⟨q1, q2⟩ := OwnE.sc q.own
  obtain ⟨st, rest, hst, w1⟩ := s.tk.storeN (T' := T) hx rfl hte q.own.one q1 q2
  have hset : ∀ B b, b ≠ p → (List.set J p B)[b]? = J[b]? := fun B b h => List.getElem?_set_ne (fun e => h e.symm)
  have hpm := s.tk.ge
  refine ⟨_, w1, ⟨s.tk.upd (y := (x.1, w)) (t2 := ⟨t.on, Z⟩) hx ht (.inl ⟨rfl, hi⟩) (fun b _ => rfl) hon q.own (fun b hb => ⟨(q.sp b hb).1, fun j z _ hz => (q.sp b hb).2.2.2 j z hz⟩) rest st hst, s.pu.keep (Keep.of_set rfl) (fun b hb e => by cases hb; exact (s.sp _ e).1 rfl), fun b hb => ?_, ?_, ?_, ?_, by simp; exact s.xl, ⟨by simp; exact s.kp.len, fun b hb _ => ?_⟩⟩⟩
  · obtain ⟨h1, h2, h3⟩ := s.sp b hb
    refine ⟨h1, h2, fun j z hz => ?_⟩
    by_cases e : i = j
    · subst e
      rw [List.getElem?_set_self (List.getElem?_eq_some_iff.1 hx).1] at hz
      simp only [Option.some.injEq] at hz
      subst hz
      exact fun e => (q.sp b e).2.2.1 hb
    · rw [List.getElem?_set_ne e] at hz; exact h3 j z hz
  · rw [hset _ _ (fun e => hlow.2.2.2.2.1 e.symm)]; exact s.bx
  · rw [hset _ _ (by omega)]; exact s.br
  · refine ⟨hlow.1, hlow.2.1, hlow.2.2.1, hlow.2.2.2.1, hlow.2.2.2.2.1, fun j z hz => ?_⟩
    by_cases e : i = j
    · subst e
      rw [List.getElem?_set_self (List.getElem?_eq_some_iff.1 hx).1] at hz
      simp only [Option.some.injEq] at hz
      subst hz
      exact fun e => (q.sp xb e).2.1 rfl
    · rw [List.getElem?_set_ne e] at hz; exact hlow.2.2.2.2.2 j z hz
  · rw [hset _ _ (by omega)]; exact s.kp.at_ b hb (by simp)
end
end Go.Proofs.Ytccfhighlpfdmaa

