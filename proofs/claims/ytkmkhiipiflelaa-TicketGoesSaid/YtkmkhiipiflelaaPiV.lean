import Derived.Test.YtkmkhiipiflelaaPiU
/-! PI, part V: an own slice is lent to a call as a value; the answer may be new memory. -/
set_option linter.unusedVariables false
set_option linter.unusedSimpArgs false
namespace Go.Proofs.PI
open Go.RowKit

/-- A cell that tells of no frozen memory. -/
def AV.loose : AV → Bool
  | .lst .. | .cptr _ | .agg _ | .tup _ | .fn .. | .junk => false
  | _ => true
/-- A value that tells of no frozen memory. -/
inductive Nofz : AV → Prop
  | cell (a : AV) (h : a.loose = true) : Nofz a
  | agg (l : List AV) (h : ∀ (i : Nat) a, l[i]? = some a → Nofz a) : Nofz (.agg l)
  | tup (l : List AV) (h : ∀ (i : Nat) a, l[i]? = some a → Nofz a) : Nofz (.tup l)
theorem Nofz.row : ∀ {l : List AV}, (∀ a ∈ l, Nofz a) → ∀ (i : Nat) a, l[i]? = some a → Nofz a := fun h i a ha => h a (List.mem_of_getElem? ha)
theorem RV.refz {φ ψ : Ph} (hl : ∀ b L, φ b = some L → ψ b = some L) {a : AV} (h : Nofz a) : ∀ {v : Value}, RV φ a v → RV ψ a v := by
  induction h with
  | cell a ha =>
    intro v hv
    cases hv <;> simp only [AV.loose, Bool.false_eq_true] at ha
    · exact .int _ _
    · exact .bool _
    · exact .str _
    · exact .nilp
    · rename_i b o L h; exact .ptr b o L (hl _ _ h)
    · exact .nils
    · exact .emp _ _
    · rename_i b o n cap L c hc h; exact .sl b o n cap L c (hl _ _ h) hc
    · exact .nilf
    · exact .nul _
    · rename_i b L h; exact .mp b L (hl _ _ h)
  | agg l h ih =>
    intro v hv
    obtain ⟨vs, rfl, hs⟩ := RV.agg_iff.1 hv
    exact RV.agg_iff.2 ⟨vs, rfl, hs.1, fun i a v ha hv => ih i a ha (hs.2 i a v ha hv)⟩
  | tup l h ih =>
    intro v hv
    obtain ⟨vs, rfl, hs⟩ := RV.tup_iff.1 hv
    exact RV.tup_iff.2 ⟨vs, rfl, hs.1, fun i a v ha hv => ih i a ha (hs.2 i a v ha hv)⟩

/-- All blocks dead. -/
def Heap.shut (H : Heap) : Heap := H.map fun B => ⟨B.cells, B.esz, .dead⟩
theorem shut_len (H : Heap) : H.shut.length = H.length := List.length_map ..
theorem shut_get {H : Heap} {b : Nat} {B : Blk} (h : H.shut[b]? = some B) : B.st = .dead := by
  unfold Heap.shut at h
  rw [List.getElem?_map] at h
  cases hb : H[b]? with
  | none => rw [hb] at h; cases h
  | some C => rw [hb] at h; simp at h; subst h; rfl
/-- A new block, given back. -/
def backB (B : Blk) : Blk := if B.st.own = true then ⟨B.cells.takeWhile AV.loose, B.esz, .opn⟩ else ⟨[], B.esz, .dead⟩
/-- The memory behind a call that had it lent. -/
def Heap.back (H I : Heap) : Heap := H ++ (I.drop H.length).map backB
theorem back_old {H I : Heap} {b : Nat} (h : b < H.length) : (H.back I)[b]? = H[b]? := List.getElem?_append_left h
theorem back_new {H I : Heap} {b : Nat} (h : H.length ≤ b) : (H.back I)[b]? = (I[b]?).map backB := by
  unfold Heap.back
  rw [List.getElem?_append_right h, List.getElem?_map, List.getElem?_drop, Nat.add_sub_cancel' h]
theorem back_len {H I : Heap} (h : H.length ≤ I.length) : (H.back I).length = I.length := by
  unfold Heap.back
  rw [List.length_append, List.length_map, List.length_drop, Nat.add_sub_cancel' h]
theorem back_keep (H I : Heap) : Keep none H (H.back I) := ⟨by unfold Heap.back; simp, fun b hb _ => back_old hb⟩

section
variable {P : Program} {H : Heap}
theorem WC_lend {f : FuncId} {args args' : List AV} {Q : AV → Heap → Prop} (ha : All2 (Thaw 0 H) args args') (h : WC P f args' H.shut fun r I => Nofz r ∧ Q r I) : WC P f args H fun r H' => ∃ I, Q r I ∧ H' = H.back I := by
  refine ⟨h.1, fun base φ w vs hR hv => ?_⟩
  have hRd : Rel w.heap.size ⟨φ.loc, fzOf φ 0 H w⟩ H.shut w := by
    refine ⟨fun b B L hB hL => ?_, fun b c B C L M hB hC h1 h2 => ?_, fun b L hL => ?_, Nat.le_refl _, fzOf_ok hR, fun r z b B L hz hB ho => ?_⟩
    · unfold BlkRel; rw [shut_get hB]; trivial
    · rw [shut_get hB] at h1; cases h1
    · rw [shut_len]; exact hR.dom b L hL
    · rw [shut_get hB] at ho; cases ho
  have hv' : RVs ⟨φ.loc, fzOf φ 0 H w⟩ args' vs := by
    obtain ⟨h1, h2⟩ := Thaw.row ha
    refine ⟨h1 ▸ hv.1, fun i c v hc hu => ?_⟩
    have hi : i < args.length := by rw [h1]; exact (List.getElem?_eq_some_iff.1 hc).1
    exact (h2 i _ c (List.getElem?_eq_getElem hi) hc).rv hR (hv.2 i _ v (List.getElem?_eq_getElem hi) hu) _ rfl
  refine (h.2 w.heap.size _ w vs hRd hv').mono ?_
  rintro e w' ⟨v, r, I, ψ, rfl, k1, k2, k3, hn, hq⟩
  have hlen : H.length ≤ I.length := by have := k3.len; rw [shut_len] at this; exact this
  have hloc : ∀ b, b < H.length → ψ b = φ b := fun b hb => k3.keep b (by rw [shut_len]; exact hb)
  have hle : φ.le ⟨ψ.loc, φ.fz⟩ := ⟨fun b L hL => (hloc b (hR.dom b L hL)).trans hL, fun _ _ h => h⟩
  have hblk : ∀ k, k < w.heap.size → w'.heap[k]? = w.heap[k]? := k3.below.block
  have old : ∀ b B L, b < H.length → H[b]? = some B → ψ b = some L → BlkRel base ⟨ψ.loc, φ.fz⟩ B L w' := fun b B L hb hB hL => by
    have r0 := hR.blk b B L hB (by rw [← hloc b hb]; exact hL)
    unfold BlkRel at r0 ⊢
    cases hst : B.st <;> rw [hst] at r0 <;> simp only at r0 ⊢
    · refine ⟨r0.1, r0.2.1, fun i a ha => ?_⟩
      obtain ⟨g1, u, g2, g3⟩ := r0.2.2 i a ha
      exact ⟨g1, u, by rw [k3.below.cell (p := ⟨L.r, L.o + i, none⟩) (World.block_lt_of_cell? w _ g2)]; exact g2, g3.mono hle⟩
    rotate_left 2
    · obtain ⟨g1, es, clk, g2, g3⟩ := r0
      exact ⟨g1, es, clk, by rw [hblk _ (Array.getElem?_eq_some_iff.1 g2).1]; exact g2, g3⟩
    all_goals
      obtain ⟨g1, g2, g3, c, e, fz, g4, g5, g6, g7, g8⟩ := r0
      refine ⟨g1, g2, g3, c, e, fz, by rw [hblk _ (Array.getElem?_eq_some_iff.1 g4).1]; exact g4, g5, g6, g7, fun i a ha => ?_⟩
      obtain ⟨j1, u, j2, j3⟩ := g8 i a ha
      exact ⟨j1, u, j2, j3.mono hle⟩
  have new : ∀ b B, H.length ≤ b → (H.back I)[b]? = some B → ∃ C, I[b]? = some C ∧ B = backB C := fun b B hb hB => by
    rw [back_new hb] at hB
    cases hc : I[b]? with
    | none => rw [hc] at hB; cases hB
    | some C => rw [hc] at hB; simp at hB; exact ⟨C, rfl, hB.symm⟩
  have newOwn : ∀ b B L, H.length ≤ b → (H.back I)[b]? = some B → B.st.own = true → ψ b = some L → ∃ C, I[b]? = some C ∧ C.st.own = true ∧ B = ⟨C.cells.takeWhile AV.loose, C.esz, .opn⟩ ∧ w.heap.size ≤ L.r := fun b B L hb hB ho hL => by
    obtain ⟨C, hC, rfl⟩ := new b B hb hB
    unfold backB at ho ⊢
    split at ho
    · rename_i hco
      rw [if_pos hco]
      exact ⟨C, hC, hco, rfl, ((BlkRel.own_iff hco).1 (k2.blk b C L hC hL)).2.1⟩
    · cases ho
  have oldOwn : ∀ b B L, b < H.length → H[b]? = some B → B.st.own = true → ψ b = some L → L.r < w.heap.size := fun b B L hb hB ho hL => by
    obtain ⟨_, _, _, c, e, z, g, _⟩ := (BlkRel.own_iff ho).1 (hR.blk b B L hB (by rw [← hloc b hb]; exact hL))
    exact (Array.getElem?_eq_some_iff.1 g).1
  refine ⟨v, r, H.back I, ⟨ψ.loc, φ.fz⟩, rfl, RV.refz (φ := ψ) (ψ := ⟨ψ.loc, φ.fz⟩) (fun _ _ h => h) hn k1, ?_, ?_, I, hq, rfl⟩
  · refine ⟨fun b B L hB hL => ?_, fun b c B C L M hB hC h1 h2 hL hM hr => ?_, fun b L hL => ?_, Nat.le_trans hR.size k3.below.size, fun r z hz => ?_, fun r z b B L hz hB ho hL => ?_⟩
    · rcases Nat.lt_or_ge b H.length with hb | hb
      · rw [back_old hb] at hB; exact old b B L hb hB hL
      · obtain ⟨C, hC, rfl⟩ := new b B hb hB
        unfold backB
        split
        · rename_i hco
          obtain ⟨g1, g2, g3, c, e, z, g4, g5, g6, g7, g8, g9⟩ := (BlkRel.own_iff hco).1 (k2.blk b C L hC hL)
          refine (BlkRel.own_iff (B := ⟨C.cells.takeWhile AV.loose, C.esz, .opn⟩) rfl).2 ⟨g1, Nat.le_trans hR.size g2, g3, c, e, z, g4, g5, Nat.le_trans (List.takeWhile_sublist _).length_le g6, (fun h => nomatch h), g8, fun i a ha => ?_⟩
          have hia : C.cells[i]? = some a := by
            have := List.takeWhile_prefix (p := AV.loose) (l := C.cells)
            obtain ⟨t, ht⟩ := this
            rw [← ht, List.getElem?_append_left (List.getElem?_eq_some_iff.1 ha).1]; exact ha
          obtain ⟨j1, u, j2, j3⟩ := g9 i a hia
          have hla : a.loose = true := List.all_eq_true.1 (List.all_takeWhile (p := AV.loose) (l := C.cells)) a (List.mem_of_getElem? ha)
          exact ⟨j1, u, j2, RV.refz (φ := ψ) (ψ := ⟨ψ.loc, φ.fz⟩) (fun _ _ h => h) (.cell a hla) j3⟩
        · unfold BlkRel; trivial
    · rcases Nat.lt_or_ge b H.length with hb | hb <;> rcases Nat.lt_or_ge c H.length with hc | hc
      · rw [back_old hb] at hB; rw [back_old hc] at hC
        exact hR.inj b c B C L M hB hC h1 h2 (by rw [← hloc b hb]; exact hL) (by rw [← hloc c hc]; exact hM) hr
      · rw [back_old hb] at hB
        have := oldOwn b B L hb hB h1 hL
        obtain ⟨_, _, _, _, q⟩ := newOwn c C M hc hC h2 hM
        omega
      · rw [back_old hc] at hC
        have := oldOwn c C M hc hC h2 hM
        obtain ⟨_, _, _, _, q⟩ := newOwn b B L hb hB h1 hL
        omega
      · obtain ⟨B', q1, q2, _, _⟩ := newOwn b B L hb hB h1 hL
        obtain ⟨C', q3, q4, _, _⟩ := newOwn c C M hc hC h2 hM
        exact k2.inj b c B' C' L M q1 q3 q2 q4 hL hM hr
    · rw [back_len hlen]; exact k2.dom b L hL
    · obtain ⟨g1, g2⟩ := hR.fzOk r z hz
      exact ⟨Nat.lt_of_lt_of_le g1 k3.below.size, fun i u hu => by rw [k3.below.cell (p := ⟨r, i, none⟩) g1]; exact g2 i u hu⟩
    · rcases Nat.lt_or_ge b H.length with hb | hb
      · rw [back_old hb] at hB
        exact hR.fzSep r z b B L hz hB ho (by rw [← hloc b hb]; exact hL)
      · obtain ⟨_, _, _, _, q⟩ := newOwn b B L hb hB ho hL
        have := (hR.fzOk r z hz).1
        omega
  · exact ⟨hloc, by rw [back_len hlen]; exact hlen, k3.below.mono hR.size, fun _ _ h => h, fun _ _ h => .inl h⟩
/-- Lent to a call whose answer is a value of its own. -/
theorem WC_lend_val {f : FuncId} {args args' : List AV} {val : AV} (ha : All2 (Thaw 0 H) args args') (hn : Nofz val) (h : ∀ J, WC P f args' J fun r H' => r = val ∧ H' = J) : WC P f args H fun r H' => r = val ∧ H' = H :=
  (WC_lend (Q := fun r I => r = val ∧ I = H.shut) ha ((h _).mono fun r I ⟨h1, h2⟩ => ⟨h1 ▸ hn, h1, h2⟩)).mono fun r H' ⟨I, ⟨h1, h2⟩, h3⟩ => ⟨h1, by rw [h3, h2]; unfold Heap.back; rw [← shut_len H, List.drop_length]; simp⟩
/-- What was new stays as it is, if it tells of no frozen memory. -/
theorem Own.back {I : Heap} {v : AV} {sz : Nat} {cs : List AV} (h : Own H.shut.length I v sz cs) (hc : ∀ a ∈ cs, a.loose = true) : Own H.length (H.back I) v sz cs := by
  rcases h with h | ⟨b, n, st, rest, rfl, h1, h2, h3, h4⟩
  · exact .inl h
  · rw [shut_len] at h1
    refine .inr ⟨b, n, .opn, rest.takeWhile AV.loose, rfl, h1, ?_, rfl, h4⟩
    rw [back_new h1, h2]
    simp only [Option.map_some, backB, if_pos h3]
    rw [List.takeWhile_append_of_pos hc]
end
end Go.Proofs.PI

