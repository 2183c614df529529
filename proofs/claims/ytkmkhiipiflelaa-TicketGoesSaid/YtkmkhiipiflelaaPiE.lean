import Derived.Test.YtkmkhiipiflelaaPiD
/-! PI, part E: the abstract heap and the world, step by step. -/
set_option linter.unusedVariables false
set_option linter.unusedSimpArgs false
namespace Go.Proofs.PI
open Go.RowKit
section
variable {P : Program} {T : TypeId → Option TD} {φ : Ph} {base : Nat} {H : Heap} {w w' : World}

/-- What an own block is in the world. -/
theorem BlkRel.own_iff {B : Blk} {L : Loc} (hst : B.st.own = true) : BlkRel base φ B L w ↔ (L.own = true ∧ base ≤ L.r ∧ L.esz = B.esz ∧ ∃ c e fz, w.heap[L.r]? = some (.cells c e fz) ∧ c.size = L.o + L.size ∧ B.cells.length ≤ L.size ∧
      (B.st = .full → B.cells.length = L.size ∧ ¬ (fz.1 ≤ c.size ∧ c.size < fz.2)) ∧ (∀ i, i < c.size → ¬ (fz.1 ≤ i ∧ i < fz.2)) ∧ ∀ (i : Nat) a, B.cells[i]? = some a → a.one = true ∧ ∃ v, c[L.o + i]? = some v ∧ RV φ a v) := by
  unfold BlkRel
  cases hb : B.st <;> rw [hb] at hst <;> simp only [St.own, Bool.false_eq_true] at hst
  · constructor
    · rintro ⟨h1, h2, h3, c, e, fz, h4, h5, h6, h7, h8⟩
      exact ⟨h1, h2, h3, c, e, fz, h4, h5, h6, fun h => by simp at h, h7, h8⟩
    · rintro ⟨h1, h2, h3, c, e, fz, h4, h5, h6, _, h7, h8⟩
      exact ⟨h1, h2, h3, c, e, fz, h4, h5, h6, h7, h8⟩
  · constructor
    · rintro ⟨h1, h2, h3, c, e, fz, h4, h5, h6, h7, h8⟩
      exact ⟨h1, h2, h3, c, e, fz, h4, h5, Nat.le_of_eq h6, fun _ => ⟨h6, h7 _ (Nat.le_refl _)⟩, fun i hi => h7 i (Nat.le_of_lt hi), h8⟩
    · rintro ⟨h1, h2, h3, c, e, fz, h4, h5, _, h6, h7, h8⟩
      exact ⟨h1, h2, h3, c, e, fz, h4, h5, (h6 rfl).1, fun i hi => (Nat.lt_or_eq_of_le hi).elim (h7 i) (fun e => by rw [e]; exact (h6 rfl).2), h8⟩

/-- An alive block's cells can be read. -/
theorem BlkRel.read {B : Blk} {L : Loc} (h : BlkRel base φ B L w) (hst : B.st.alive = true) {i : Nat} {a : AV} (ha : B.cells[i]? = some a) : a.one = true ∧ ∃ v, w.cell? ⟨L.r, L.o + i, none⟩ = some v ∧ RV φ a v := by
  unfold BlkRel at h
  cases hb : B.st <;> rw [hb] at h hst <;> simp only [St.alive, Bool.false_eq_true] at hst h
  · exact h.2.2 i a ha
  · obtain ⟨_, _, _, c, e, fz, h4, _, _, _, h8⟩ := h
    obtain ⟨h1, v, hv, hr⟩ := h8 i a ha
    exact ⟨h1, v, by simp [World.cell?, h4, hv], hr⟩
  · obtain ⟨_, _, _, c, e, fz, h4, _, _, _, h8⟩ := h
    obtain ⟨h1, v, hv, hr⟩ := h8 i a ha
    exact ⟨h1, v, by simp [World.cell?, h4, hv], hr⟩

theorem BlkRel.mono {ψ : Ph} (hφ : φ.le ψ) {B : Blk} {L : Loc} (h : BlkRel base φ B L w)
    (hb : ∀ k, k < w.heap.size → w'.heap[k]? = w.heap[k]?) : BlkRel base ψ B L w' := by
  unfold BlkRel at *
  cases hs : B.st <;> rw [hs] at h <;> simp only at h ⊢
  · obtain ⟨h1, h2, h3⟩ := h
    refine ⟨h1.mono hφ, h2, fun i a ha => ?_⟩
    obtain ⟨h4, v, hv, hr⟩ := h3 i a ha
    refine ⟨h4, v, ?_, hr.mono hφ⟩
    have hlt := World.block_lt_of_cell? w _ hv
    rw [World.cell?_of_block (w := w) (hb _ hlt)]; exact hv
  rotate_left 2
  · obtain ⟨h1, es, clk, h2, h3⟩ := h
    exact ⟨h1, es, clk, by rw [hb _ (Array.getElem?_eq_some_iff.1 h2).1]; exact h2, h3⟩
  all_goals
    obtain ⟨h1, h2, h3, c, e, fz, h4, h5, h6, h7, h8⟩ := h
    have hlt : L.r < w.heap.size := (Array.getElem?_eq_some_iff.1 h4).1
    refine ⟨h1, h2, h3, c, e, fz, by rw [hb _ hlt]; exact h4, h5, h6, h7, fun i a ha => ?_⟩
    obtain ⟨h9, v, hv, hr⟩ := h8 i a ha
    exact ⟨h9, v, hv, hr.mono hφ⟩

/-- A map stays where it is. -/
theorem BlkRel.mpKeep {ψ : Ph} {B : Blk} {L : Loc} (h : BlkRel base φ B L w) (hs : B.st = .mp) {base' : Nat} (hbase : base' ≤ L.r) (hw : ∀ es clk, w.heap[L.r]? = some (.map es clk) → w'.heap[L.r]? = some (.map es clk)) : BlkRel base' ψ B L w' := by
  unfold BlkRel at *
  rw [hs] at h ⊢
  obtain ⟨h1, es, clk, h2, h3⟩ := h
  exact ⟨hbase, es, clk, hw _ _ h2, h3⟩
theorem BlkRel.mp_row {B : Blk} {L : Loc} (h : BlkRel base φ B L w) (hs : B.st = .mp) : base ≤ L.r ∧ ∃ es clk, w.heap[L.r]? = some (.map es clk) ∧ MapOk es B.cells := by
  unfold BlkRel at h
  rw [hs] at h
  exact h

theorem Rel.fzKeep (h : Rel base φ H w) (hb : ∀ r z, φ.fz r = some z → w'.heap[r]? = w.heap[r]?) (hs : w.heap.size ≤ w'.heap.size) :
    ∀ r z, φ.fz r = some z → r < w'.heap.size ∧ ∀ (i : Nat) u, z[i]? = some u → w'.cell? ⟨r, i, none⟩ = some u := fun r z hz => by
  obtain ⟨h1, h2⟩ := h.fzOk r z hz
  refine ⟨Nat.lt_of_lt_of_le h1 hs, fun i u hu => ?_⟩
  rw [World.cell?_of_block (w := w) (hb r z hz)]; exact h2 i u hu
theorem Rel.grow (h : Rel base φ H w) (hb : ∀ k, k < w.heap.size → w'.heap[k]? = w.heap[k]?) (hs : w.heap.size ≤ w'.heap.size) : Rel base φ H w' :=
  ⟨fun b B L hB hL => (h.blk b B L hB hL).mono (.refl _) hb, h.inj, h.dom, Nat.le_trans h.size hs, h.fzKeep (fun r z hz => hb r (h.fzOk r z hz).1) hs, h.fzSep⟩
theorem Rel.drew (h : Rel base φ H w) : Rel base φ H w.drew := h.grow (fun _ _ => rfl) (Nat.le_refl _)

/-- A block more, which the world has not got yet. -/
theorem Rel.snoc (h : Rel base φ H w) (B : Blk) : Rel base φ (H ++ [B]) w := by
  have hlt : ∀ b L, φ b = some L → ∀ C, (H ++ [B])[b]? = some C → H[b]? = some C := fun b L hL C hC => by
    rw [List.getElem?_append_left (h.dom b L hL)] at hC; exact hC
  refine ⟨fun b C L hC hL => h.blk b C L (hlt b L hL C hC) hL, fun b c C D L M hC hD h1 h2 hL hM => h.inj b c C D L M (hlt b L hL C hC) (hlt c M hM D hD) h1 h2 hL hM, fun b L hL => ?_, h.size, h.fzOk, fun r z b C L hz hC ho hL => h.fzSep r z b C L hz (hlt b L hL C hC) ho hL⟩
  have := h.dom b L hL
  simp; omega
theorem Rel.unmapped (h : Rel base φ H w) : φ H.length = none := by
  cases hp : φ H.length with
  | none => rfl
  | some L => exact absurd (h.dom _ _ hp) (Nat.lt_irrefl _)

def upd (φ : Ph) (s : Nat) (L : Loc) : Ph := ⟨fun b => if b = s then some L else φ b, φ.fz⟩
theorem upd_same (φ : Ph) (s : Nat) (L : Loc) : upd φ s L s = some L := by simp [upd]
theorem upd_other (φ : Ph) {s b : Nat} (L : Loc) (h : b ≠ s) : upd φ s L b = φ b := by simp [upd, h]
theorem upd_sub {s : Nat} (L : Loc) (hun : φ s = none) : φ.le (upd φ s L) := ⟨fun b M h => by
  have : b ≠ s := fun e => by subst e; rw [hun] at h; cases h
  rw [upd_other φ L this]; exact h, fun _ _ h => h⟩

/-- The world gets a row for a block that the abstract heap has. -/
theorem Rel.catch0 (h : Rel base φ H w) {s : Nat} {B : Blk} (hs : H[s]? = some B) (hun : φ s = none)
    (hb : ∀ k, k < w.heap.size → w'.heap[k]? = w.heap[k]?) {L : Loc} (hlr : w.heap.size ≤ L.r) (hsz : w.heap.size ≤ w'.heap.size)
    (hrel : BlkRel base (upd φ s L) B L w') : Rel base (upd φ s L) H w' := by
  have hsub := upd_sub L hun
  have hold : ∀ b M, φ b = some M → ∀ C, H[b]? = some C → C.st.own = true → M.r < w.heap.size := fun b M hM C hC hCs => by
    obtain ⟨_, _, _, c, e, fz, h4, _⟩ := (BlkRel.own_iff hCs).1 (h.blk b C M hC hM)
    exact (Array.getElem?_eq_some_iff.1 h4).1
  refine ⟨fun b C M hC hM => ?_, fun b c C D M N hC hD h1 h2 hM hN hr => ?_, fun b M hM => ?_, Nat.le_trans h.size hsz, h.fzKeep (fun r z hz => hb r (h.fzOk r z hz).1) hsz, fun r z b C M hz hC ho hM => ?_⟩
  rotate_left 3
  · by_cases e : b = s
    · subst e
      rw [upd_same] at hM
      simp only [Option.some.injEq] at hM; subst hM
      have := (h.fzOk r z hz).1; omega
    · rw [upd_other φ L e] at hM; exact h.fzSep r z b C M hz hC ho hM
  · by_cases e : b = s
    · subst e
      rw [upd_same] at hM
      simp only [Option.some.injEq] at hM; subst hM
      rw [hs] at hC
      simp only [Option.some.injEq] at hC; subst hC
      exact hrel
    · rw [upd_other φ L e] at hM
      exact (h.blk b C M hC hM).mono hsub hb
  · by_cases e : b = s
    · by_cases e' : c = s
      · rw [e, e']
      · subst e
        rw [upd_same] at hM
        simp only [Option.some.injEq] at hM; subst hM
        rw [upd_other φ L e'] at hN
        have := hold c N hN D hD h2
        omega
    · by_cases e' : c = s
      · subst e'
        rw [upd_same] at hN
        simp only [Option.some.injEq] at hN; subst hN
        rw [upd_other φ L e] at hM
        have := hold b M hM C hC h1
        omega
      · rw [upd_other φ L e] at hM
        rw [upd_other φ L e'] at hN
        exact h.inj b c C D M N hC hD h1 h2 hM hN hr
  · by_cases e : b = s
    · subst e; exact (List.getElem?_eq_some_iff.1 hs).1
    · rw [upd_other φ L e] at hM; exact h.dom b M hM

theorem Rel.catch (h : Rel base φ H w) {s : Nat} {B : Blk} (hs : H[s]? = some B) (hun : φ s = none) (hst : B.st.own = true)
    (hb : ∀ k, k < w.heap.size → w'.heap[k]? = w.heap[k]?) {L : Loc} (hlr : w.heap.size ≤ L.r) (hsz : w.heap.size ≤ w'.heap.size)
    (hrel : BlkRel base (upd φ s L) B L w') : Rel base (upd φ s L) H w' := h.catch0 hs hun hb hlr hsz hrel

/-- A block that nothing tells of any more. -/
theorem Rel.kill (h : Rel base φ H w) (b : Nat) (B : Blk) (hB : B.st = .dead) : Rel base φ (H.set b B) w := by
  have key : ∀ (c : Nat) (C : Blk), (H.set b B)[c]? = some C → C.st = .dead ∨ H[c]? = some C := fun c C hC => by
    rw [List.getElem?_set] at hC
    split at hC
    · split at hC
      · simp only [Option.some.injEq] at hC; subst hC; exact .inl hB
      · cases hC
    · exact .inr hC
  refine ⟨fun c C L hC hL => ?_, fun c d C D L M hC hD h1 h2 hL hM => ?_, fun c L hL => by simpa using h.dom c L hL, h.size, h.fzOk, fun r z c C L hz hC ho hL => ?_⟩
  rotate_left 2
  · rcases key c C hC with hd | hC
    · rw [hd] at ho; cases ho
    · exact h.fzSep r z c C L hz hC ho hL
  · rcases key c C hC with hd | hC
    · simp [BlkRel, hd]
    · exact h.blk c C L hC hL
  · rcases key c C hC with hd | hC
    · rw [hd] at h1; simp [St.own] at h1
    · rcases key d D hD with hd | hD
      · rw [hd] at h2; simp [St.own] at h2
      · exact h.inj c d C D L M hC hD h1 h2 hL hM

/-! ### Cells written -/
def arrWr (c : Array Value) (o : Nat) : List Value → Array Value
  | [] => c
  | v :: vs => arrWr (c.setIfInBounds o v) (o + 1) vs
theorem arrWr_size (vs : List Value) : ∀ (c : Array Value) (o : Nat), (arrWr c o vs).size = c.size := by
  induction vs with
  | nil => intro c o; rfl
  | cons v vs ih => intro c o; simp [arrWr, ih]
theorem arrWr_toList (vs : List Value) : ∀ (c : Array Value) (o : Nat), (arrWr c o vs).toList = wrV c.toList o vs := by
  induction vs with
  | nil => intro c o; rfl
  | cons v vs ih => intro c o; simp [arrWr, wrV, ih]
theorem setCells_heap (r : Nat) (vs : List Value) : ∀ (o : Nat) (w : World) (c : Array Value) (e : TypeId) (fz : Nat × Nat), w.heap[r]? = some (.cells c e fz) → (w.setCells r o vs).heap[r]? = some (.cells (arrWr c o vs) e fz) := by
  induction vs with
  | nil => intro o w c e fz h; exact h
  | cons v vs ih =>
    intro o w c e fz h
    refine ih (o + 1) _ _ e fz ?_
    simp only [World.setCell, Array.getElem?_modify, if_true, h]
    rfl
theorem setCells_other (r : Nat) (vs : List Value) : ∀ (o : Nat) (w : World) (k : Nat), k ≠ r → (w.setCells r o vs).heap[k]? = w.heap[k]? := by
  induction vs with
  | nil => intro o w k h; rfl
  | cons v vs ih =>
    intro o w k h
    rw [World.setCells, ih (o + 1) _ k h]
    exact Below.heap_setCell _ _ _ _ h
theorem setCells_size (r : Nat) (vs : List Value) : ∀ (o : Nat) (w : World), (w.setCells r o vs).heap.size = w.heap.size := by
  induction vs with
  | nil => intro o w; rfl
  | cons v vs ih => intro o w; rw [World.setCells, ih]; simp [World.setCell]
theorem setCells_below (r : Nat) (vs : List Value) (B : Nat) (hB : B ≤ r) : ∀ (o : Nat) (w : World), Below B w (w.setCells r o vs) := by
  induction vs with
  | nil => intro o w; exact Below.refl _ _
  | cons v vs ih => intro o w; exact ((Below.refl B w).setCell (p := ⟨r, o, none⟩) hB v).trans (ih (o + 1) _)

theorem wr_getElem? (l : List AV) (cs : List AV) : ∀ (o : Nat), o + cs.length ≤ l.length → ∀ i, (wr l o cs)[i]? = if o ≤ i ∧ i < o + cs.length then cs[i - o]? else l[i]? := by
  induction cs generalizing l with
  | nil => intro o h i; simp [wr]; intro h1 h2; omega
  | cons c cs ih =>
    intro o h i
    simp only [List.length_cons] at h
    rw [wr, ih (l.set o c) (o + 1) (by simp; omega)]
    simp only [List.length_cons]
    by_cases h1 : o + 1 ≤ i ∧ i < o + 1 + cs.length
    · rw [if_pos h1, if_pos ⟨by omega, by omega⟩]
      obtain ⟨k, rfl⟩ : ∃ k, i = o + 1 + k := ⟨i - (o + 1), by omega⟩
      rw [show o + 1 + k - (o + 1) = k by omega, show o + 1 + k - o = k + 1 by omega]
      simp
    · rw [if_neg h1, List.getElem?_set]
      by_cases e : o = i
      · subst e
        rw [if_pos rfl, if_pos (by omega), if_pos ⟨by omega, by omega⟩]
        simp
      · rw [if_neg e, if_neg (by omega)]
theorem wrV_getElem? (l : List Value) (cs : List Value) : ∀ (o : Nat), o + cs.length ≤ l.length → ∀ i, (wrV l o cs)[i]? = if o ≤ i ∧ i < o + cs.length then cs[i - o]? else l[i]? := by
  induction cs generalizing l with
  | nil => intro o h i; simp [wrV]; intro h1 h2; omega
  | cons c cs ih =>
    intro o h i
    simp only [List.length_cons] at h
    rw [wrV, ih (l.set o c) (o + 1) (by simp; omega)]
    simp only [List.length_cons]
    by_cases h1 : o + 1 ≤ i ∧ i < o + 1 + cs.length
    · rw [if_pos h1, if_pos ⟨by omega, by omega⟩]
      obtain ⟨k, rfl⟩ : ∃ k, i = o + 1 + k := ⟨i - (o + 1), by omega⟩
      rw [show o + 1 + k - (o + 1) = k by omega, show o + 1 + k - o = k + 1 by omega]
      simp
    · rw [if_neg h1, List.getElem?_set]
      by_cases e : o = i
      · subst e
        rw [if_pos rfl, if_pos (by omega), if_pos ⟨by omega, by omega⟩]
        simp
      · rw [if_neg e, if_neg (by omega)]

/-- Cells of an own block are written. -/
theorem Rel.write (h : Rel base φ H w) {b : Nat} {B : Blk} {L : Loc} (hB : H[b]? = some B) (hL : φ b = some L) (hst : B.st.own = true) {o : Nat} {cs : List AV} {vs : List Value}
    (hcs : RVs φ cs vs) (h1 : ∀ a ∈ cs, a.one = true) (hfit : o + cs.length ≤ B.cells.length) :
    Rel base φ (H.set b { B with cells := wr B.cells o cs }) (w.setCells L.r (L.o + o) vs) := by
  obtain ⟨g1, g2, g3, c, e, fz, g4, g5, g6, g7, g8, g9⟩ := (BlkRel.own_iff hst).1 (h.blk b B L hB hL)
  have hb : b < H.length := (List.getElem?_eq_some_iff.1 hB).1
  have key : ∀ (d : Nat) (D : Blk), (H.set b { B with cells := wr B.cells o cs })[d]? = some D → (d = b ∧ D = { B with cells := wr B.cells o cs }) ∨ (d ≠ b ∧ H[d]? = some D) := fun d D hD => by
    rw [List.getElem?_set] at hD
    split at hD
    · rename_i e1
      simp only [Option.some.injEq] at hD
      exact .inl ⟨e1.symm, hD.symm⟩
    · rename_i e1; exact .inr ⟨fun e => e1 e.symm, hD⟩
  refine ⟨fun d D M hD hM => ?_, fun d d' D D' M M' hD hD' k1 k2 hM hM' hr => ?_, fun d M hM => by simpa using h.dom d M hM, by rw [setCells_size]; exact h.size,
    h.fzKeep (fun r z hz => setCells_other _ _ _ _ _ (fun e => h.fzSep r z b B L hz hB hst hL e.symm)) (by rw [setCells_size]; exact Nat.le_refl _), fun r z d D M hz hD ho hM => ?_⟩
  rotate_left 2
  · rcases key d D hD with ⟨rfl, rfl⟩ | ⟨hne, hD⟩
    · exact h.fzSep r z d B M hz hB hst hM
    · exact h.fzSep r z d D M hz hD ho hM
  · rcases key d D hD with ⟨rfl, rfl⟩ | ⟨hne, hD⟩
    · rw [hL] at hM
      simp only [Option.some.injEq] at hM; subst hM
      refine (BlkRel.own_iff (B := { B with cells := wr B.cells o cs }) hst).2 ⟨g1, g2, g3, arrWr c (L.o + o) vs, e, fz, setCells_heap _ _ _ _ _ _ _ g4, by rw [arrWr_size]; exact g5, by rw [wr_length]; exact g6, fun hf => by rw [wr_length, arrWr_size]; exact g7 hf, fun i hi => g8 i (by rw [arrWr_size] at hi; exact hi), fun i a ha => ?_⟩
      rw [wr_getElem? _ _ _ hfit] at ha
      have hlen : vs.length = cs.length := hcs.1.symm
      have e1 : (arrWr c (L.o + o) vs)[L.o + i]? = (wrV c.toList (L.o + o) vs)[L.o + i]? := by rw [← arrWr_toList]; simp
      rw [e1, wrV_getElem? _ _ _ (by simp; omega)]
      split at ha
      · rename_i hi
        rw [if_pos ⟨by omega, by omega⟩, show L.o + i - (L.o + o) = i - o by omega]
        obtain ⟨v, hv, hr⟩ := hcs.getD _ ha
        exact ⟨h1 a (List.mem_of_getElem? ha), v, hv, hr⟩
      · rename_i hi
        rw [if_neg (by omega)]
        simpa using g9 i a ha
    · have hrel := h.blk d D M hD hM
      cases hs : D.st with
      | dead => simp [BlkRel, hs]
      | ro =>
        have hrel' := hrel
        unfold BlkRel at hrel ⊢
        rw [hs] at hrel ⊢
        simp only at hrel ⊢
        refine ⟨hrel.1, hrel.2.1, fun i a ha => ?_⟩
        obtain ⟨k1, v, hv, hr⟩ := hrel.2.2 i a ha
        refine ⟨k1, v, ?_, hr⟩
        have hne' : M.r ≠ L.r := by
          rcases hrel.1 with ⟨_, h'⟩ | ⟨_, z, hz⟩
          · omega
          · exact fun e => h.fzSep _ z b B L hz hB hst hL e.symm
        rw [World.cell?_of_block (w := w) (setCells_other _ _ _ _ _ hne')]
        exact hv
      | opn =>
        have ho : D.st.own = true := by rw [hs]; rfl
        obtain ⟨k1, k2, k3, c', e', fz', k4, k5⟩ := (BlkRel.own_iff ho).1 hrel
        have hne' : M.r ≠ L.r := fun e => hne (h.inj d b D B M L hD hB ho hst hM hL e)
        exact (BlkRel.own_iff ho).2 ⟨k1, k2, k3, c', e', fz', by rw [setCells_other _ _ _ _ _ hne']; exact k4, k5⟩
      | full =>
        have ho : D.st.own = true := by rw [hs]; rfl
        obtain ⟨k1, k2, k3, c', e', fz', k4, k5⟩ := (BlkRel.own_iff ho).1 hrel
        have hne' : M.r ≠ L.r := fun e => hne (h.inj d b D B M L hD hB ho hst hM hL e)
        exact (BlkRel.own_iff ho).2 ⟨k1, k2, k3, c', e', fz', by rw [setCells_other _ _ _ _ _ hne']; exact k4, k5⟩
      | mp =>
        refine hrel.mpKeep hs (hrel.mp_row hs).1 fun es clk hw => ?_
        rw [setCells_other _ _ _ _ _ (fun e => by rw [e, g4] at hw; cases hw)]
        exact hw
  · have red : ∀ (d : Nat) (D : Blk), (H.set b { B with cells := wr B.cells o cs })[d]? = some D → D.st.own = true → ∃ D', H[d]? = some D' ∧ D'.st.own = true := fun d D hD k => by
      rcases key d D hD with ⟨rfl, rfl⟩ | ⟨_, hD⟩
      · exact ⟨B, hB, hst⟩
      · exact ⟨D, hD, k⟩
    obtain ⟨E, hE, j1⟩ := red d D hD k1
    obtain ⟨E', hE', j2⟩ := red d' D' hD' k2
    exact h.inj d d' E E' M M' hE hE' j1 j2 hM hM' hr
end
end Go.Proofs.PI

