import Derived.Test.YtakllaigpjbgdaaLruI
set_option linter.unusedSimpArgs false
set_option linter.unusedVariables false
set_option maxRecDepth 100000
set_option maxHeartbeats 4000000
namespace Go.Proofs.Ytakllaigpjbgdaa
open Go Go.Proofs Go.Proofs.PI Go.RowKit
section
variable {base : Nat} {φ : Ph} {H : Heap} {w w' : World}
/-- An own block's row holds other cells. -/
theorem own_rewr (h : Rel base φ H w) {b : Nat} {B : Blk} {L : PI.Loc} (hB : H[b]? = some B) (hL : φ b = some L) (hst : B.st.own = true) {cs : List AV} {c' : Array Value}
    (hother : ∀ k, k ≠ L.r → w'.heap[k]? = w.heap[k]?) (hsz : w'.heap.size = w.heap.size) (hrow : ∀ c e fz, w.heap[L.r]? = some (.cells c e fz) → w'.heap[L.r]? = some (.cells c' e fz) ∧ c'.size = c.size) (hfit : cs.length ≤ L.size)
    (hcs : ∀ (i : Nat) a, cs[i]? = some a → a.one = true ∧ ∃ v, c'[L.o + i]? = some v ∧ RV φ a v) : Rel base φ (H.set b ⟨cs, B.esz, .opn⟩) w' := by
  obtain ⟨g1, g2, g3, c, e, fz, g4, g5, g6, g7, g8, g9⟩ := (BlkRel.own_iff hst).1 (h.blk b B L hB hL)
  obtain ⟨r1, r2⟩ := hrow c e fz g4
  have hb : b < H.length := (List.getElem?_eq_some_iff.1 hB).1
  have key : ∀ (d : Nat) (D : Blk), (H.set b ⟨cs, B.esz, .opn⟩)[d]? = some D → (d = b ∧ D = ⟨cs, B.esz, .opn⟩) ∨ (d ≠ b ∧ H[d]? = some D) := fun d D hD => by
    by_cases e : b = d
    · subst e
      rw [List.getElem?_set_self hb] at hD
      exact .inl ⟨rfl, (Option.some.inj hD).symm⟩
    · rw [List.getElem?_set_ne e] at hD
      exact .inr ⟨fun e2 => e e2.symm, hD⟩
  refine ⟨fun d D M hD hM => ?_, fun d d' D D' M M' hD hD' k1 k2 hM hM' hr => ?_, fun d M hM => by simpa using h.dom d M hM, by rw [hsz]; exact h.size,
    h.fzKeep (fun r z hz => hother r (fun e => h.fzSep r z b B L hz hB hst hL e.symm)) (by rw [hsz]; exact Nat.le_refl _), fun r z d D M hz hD ho hM => ?_⟩
  rotate_left 2
  · rcases key d D hD with ⟨rfl, rfl⟩ | ⟨hne, hD⟩
    · exact h.fzSep r z d B M hz hB hst hM
    · exact h.fzSep r z d D M hz hD ho hM
  · rcases key d D hD with ⟨rfl, rfl⟩ | ⟨hne, hD⟩
    · rw [hL] at hM
      simp only [Option.some.injEq] at hM; subst hM
      exact (BlkRel.own_iff (B := ⟨cs, B.esz, .opn⟩) rfl).2 ⟨g1, g2, g3, c', e, fz, r1, by rw [r2]; exact g5, hfit, (fun hf => nomatch hf), fun i hi => g8 i (by omega), hcs⟩
    · have hrel := h.blk d D M hD hM
      cases hs : D.st with
      | dead => simp [BlkRel, hs]
      | mp =>
        refine hrel.mpKeep hs (hrel.mp_row hs).1 fun es clk hw => ?_
        rw [hother _ (fun e => by rw [e, g4] at hw; cases hw)]
        exact hw
      | ro =>
        unfold BlkRel at hrel ⊢
        rw [hs] at hrel ⊢
        simp only at hrel ⊢
        refine ⟨hrel.1, hrel.2.1, fun i a ha => ?_⟩
        obtain ⟨k1, v, hv, hr⟩ := hrel.2.2 i a ha
        refine ⟨k1, v, ?_, hr⟩
        have hne' : M.r ≠ L.r := by
          rcases hrel.1 with ⟨_, h'⟩ | ⟨_, z, hz⟩
          · omega
          · exact fun e => h.fzSep _ z b B L hz hB hst hL e.symm
        rw [World.cell?_of_block (w := w) (hother _ hne')]
        exact hv
      | opn =>
        have ho : D.st.own = true := by rw [hs]; rfl
        obtain ⟨k1, k2, k3, c2, e2, fz2, k4, k5⟩ := (BlkRel.own_iff ho).1 hrel
        have hne' : M.r ≠ L.r := fun e => hne (h.inj d b D B M L hD hB ho hst hM hL e)
        exact (BlkRel.own_iff ho).2 ⟨k1, k2, k3, c2, e2, fz2, by rw [hother _ hne']; exact k4, k5⟩
      | full =>
        have ho : D.st.own = true := by rw [hs]; rfl
        obtain ⟨k1, k2, k3, c2, e2, fz2, k4, k5⟩ := (BlkRel.own_iff ho).1 hrel
        have hne' : M.r ≠ L.r := fun e => hne (h.inj d b D B M L hD hB ho hst hM hL e)
        exact (BlkRel.own_iff ho).2 ⟨k1, k2, k3, c2, e2, fz2, by rw [hother _ hne']; exact k4, k5⟩
  · have red : ∀ (d : Nat) (D : Blk), (H.set b ⟨cs, B.esz, .opn⟩)[d]? = some D → D.st.own = true → ∃ D', H[d]? = some D' ∧ D'.st.own = true := fun d D hD k => by
      rcases key d D hD with ⟨rfl, rfl⟩ | ⟨_, hD⟩
      · exact ⟨B, hB, hst⟩
      · exact ⟨D, hD, k⟩
    obtain ⟨E, hE, j1⟩ := red d D hD k1
    obtain ⟨E', hE', j2⟩ := red d' D' hD' k2
    exact h.inj d d' E E' M M' hE hE' j1 j2 hM hM' hr
/-- A new row. -/
theorem new_row (h : Rel base φ H w) {cs : List AV} {sz : Nat} {c' : Array Value} {e : TypeId} (hold : ∀ k, k < w.heap.size → w'.heap[k]? = w.heap[k]?) (hsz : w.heap.size ≤ w'.heap.size) (hrow : w'.heap[w.heap.size]? = some (.cells c' e (0, 0)))
    (hfit : cs.length ≤ c'.size) (hcs : ∀ (i : Nat) a, cs[i]? = some a → a.one = true ∧ ∃ v, c'[i]? = some v ∧ RV φ a v) :
    Rel base (upd φ H.length ⟨w.heap.size, 0, c'.size, sz, true⟩) (H ++ [⟨cs, sz, .opn⟩]) w' := by
  refine (h.snoc ⟨cs, sz, .opn⟩).catch (s := H.length) (B := ⟨cs, sz, .opn⟩) (by simp) h.unmapped rfl hold (Nat.le_refl _) hsz ?_
  exact (BlkRel.own_iff rfl).2 ⟨rfl, h.size, rfl, c', e, (0, 0), hrow, by simp, hfit, (fun hf => nomatch hf), fun i hi => by simp, fun i a ha => by
    obtain ⟨k1, v, k2, k3⟩ := hcs i a ha
    exact ⟨k1, v, by simpa using k2, k3.mono (upd_sub _ h.unmapped)⟩⟩
end
/-- The cells of a row with x ahead. -/
theorem ahead_cells {φ : Ph} {x : List UInt8} {xs : List (List UInt8)} {c' : Array Value} {o : Nat} (h0 : c'[o]? = some (.string ⟨x.toArray⟩)) (h1 : ∀ (j : Nat) s, xs[j]? = some s → c'[o + (j + 1)]? = some (.string ⟨s.toArray⟩)) :
    ∀ (i : Nat) a, (Enc.str.row (x :: xs))[i]? = some a → a.one = true ∧ ∃ v, c'[o + i]? = some v ∧ RV φ a v := by
  have hrow : ∀ l : List (List UInt8), Enc.str.row l = l.map AV.str := fun l => by
    induction l with
    | nil => rfl
    | cons s l ih => rw [Enc.row_cons, ih]; rfl
  intro i a ha
  rw [hrow, List.map_cons] at ha
  cases i with
  | zero => cases ha; exact ⟨rfl, _, h0, .str _⟩
  | succ j =>
    rw [List.getElem?_cons_succ, List.getElem?_map] at ha
    cases hj : xs[j]? with
    | none => rw [hj] at ha; cases ha
    | some s => rw [hj] at ha; cases ha; exact ⟨rfl, _, h1 j s hj, .str _⟩
theorem str_row (l : List (List UInt8)) : Enc.str.row l = l.map AV.str := by
  induction l with
  | nil => rfl
  | cons s l ih => rw [Enc.row_cons, ih]; rfl
theorem row_get (l : List (List UInt8)) (j : Nat) : (Enc.str.row l)[j]? = (l[j]?).map AV.str := by rw [str_row, List.getElem?_map]
theorem rv_str_cells {φ : Ph} {v : Value} {s : List UInt8} (h : RV φ (.str s) v) : v = .string ⟨s.toArray⟩ := by cases h; rfl
theorem arrWr_get (c : Array Value) (o : Nat) (vs : List Value) (h : o + vs.length ≤ c.size) (i : Nat) : (arrWr c o vs)[i]? = if o ≤ i ∧ i < o + vs.length then vs[i - o]? else c[i]? := by
  have e : (arrWr c o vs)[i]? = (wrV c.toList o vs)[i]? := by rw [← arrWr_toList]; simp
  rw [e, wrV_getElem? _ _ _ (by simpa using h)]
  simp
theorem zero_size (k : Nat) : (Builtin.zeroCells (Value.string ⟨#[]⟩).cells k).size = k := by
  unfold Builtin.zeroCells
  rw [Array.size_map, Array.size_range]
  exact Nat.mul_one k
theorem insert_own (m : Nat) (v : AV) (xs : List (List UInt8)) (x : List UInt8) (H : Heap) (vb : Nat) (hx : H[vb]? = some ⟨[.str x], 1, .full⟩) (hv : OwnE Enc.str m H v xs) (hne : v.blk ≠ some vb) (hn : xs.length ≤ 1000) (hm : m ≤ H.length) :
    WC Try.prog 33 [v, .int .i64 0, .sl vb 0 1 none] H fun r H' => OwnE Enc.str m H' r (x :: xs) ∧ Keep v.blk H H' ∧ ∀ b, r.blk = some b → v.blk = some b ∨ H.length ≤ b := by
  refine ⟨⟨_, Try.func33, by simp [Try.f33], by simp [Try.f33]⟩, fun base φ w vs hR hvs => ?_⟩
  obtain ⟨v', us1, rfl, hv1, hvs1⟩ := hvs.cons_left
  obtain ⟨i', us2, rfl, hi1, hvs2⟩ := hvs1.cons_left
  obtain ⟨s', us3, rfl, hs1, hvs3⟩ := hvs2.cons_left
  obtain rfl := hvs3.nil_left
  clear hvs hvs1 hvs2 hvs3
  cases hi1
  cases hs1
  rename_i Lx cx hLx hcx
  obtain ⟨x1, x2, x3, xc, xe, xfz, x4, x5, x6, x7, x8, x9⟩ := (BlkRel.own_iff (B := ⟨[.str x], 1, .full⟩) rfl).1 (hR.blk vb _ Lx hx hLx)
  obtain ⟨-, xv, hxv, hxr⟩ := x9 0 _ rfl
  obtain rfl := rv_str_cells hxr
  have hxcell : ∀ j u, [Value.string ⟨x.toArray⟩][j]? = some u → w.cell? ⟨Lx.r, Lx.o + 0 + j, none⟩ = some u := fun j u hj => by
    cases j with
    | zero => cases hj; unfold World.cell?; simp only [x4]; exact hxv
    | succ j => cases hj
  rcases hv with ⟨rfl, hnil⟩ | ⟨b, n, st, rest, rfl, hb1, hb2, hb3, hb4⟩
  · -- the nil slice
    have hxs : xs = [] := by
      cases xs with
      | nil => rfl
      | cons a l => simp [str_row] at hnil
    subst hxs
    cases hv1
    have call := Any2.slices_Insert_string_end_grow lays none 0 0 Lx.r (Lx.o + 0) 1 cx [] [.string ⟨x.toArray⟩] w (by decide) (Nat.le_refl _) (by decide) (by decide) rfl rfl (fun _ => rfl) (fun a ha => by cases ha) hxcell (fun u hu => by rw [List.mem_singleton.1 hu]; rfl)
    rw [show lruRen.f 22 = 33 from rfl] at call
    refine Calls.mono call ?_
    rintro e w2 ⟨rfl, rfl⟩
    generalize hcap : grownCap w (0 + 1) 0 (lruRen.t 9) = cap
    have hc1 : 1 ≤ cap := by rw [← hcap]; exact grownCap_ge w 1 0 _
    have hc2 : cap ≤ maxLen := by rw [← hcap]; exact grownCap_le_maxLen w 1 0 _ (by unfold maxLen; omega)
    generalize hc' : (([] ++ [Value.string ⟨x.toArray⟩]).toArray ++ Builtin.zeroCells (Value.string ⟨#[]⟩).cells (cap - (0 + 1)) : Array Value) = c'
    have hcs : c'.size = cap := by rw [← hc', Array.size_append, zero_size]; simp; omega
    have hc0 : c'[0]? = some (.string ⟨x.toArray⟩) := by rw [← hc', Array.getElem?_append_left (by simp)]; rfl
    have hrel := new_row (sz := 1) hR (w' := w.drew.alloc (.cells c' (lruRen.t 9))) (cs := Enc.str.row [x]) (fun k hk => Below.heap_alloc _ _ _ hk) (show w.heap.size ≤ (w.heap.push _).size by simp) (heap_alloc_new w.drew _) (by rw [Enc.row_length]; show 1 * 1 ≤ _; omega)
      (fun i a ha => by have := ahead_cells (φ := φ) (x := x) (xs := []) (c' := c') (o := 0) hc0 (fun j s hj => by cases hj) i a ha; rwa [Nat.zero_add] at this)
    refine ⟨_, .sl H.length 0 1 none, _, _, rfl, ?_, hrel, ⟨fun b hb => upd_other _ _ (by omega), by simp, ((Below.refl base w).drew).alloc hR.size _, fun _ _ h => h, fun _ _ h => .inl h⟩, ?_, Keep.app _ _ _, fun b hb => by cases hb; exact .inr (Nat.le_refl _)⟩
    · have := RV.sl (φ := upd φ H.length ⟨w.heap.size, 0, c'.size, 1, true⟩) H.length 0 1 none _ cap (upd_same ..) ⟨hc1, hc2, fun _ => by show 0 + cap * 1 = c'.size; omega⟩
      exact this
    · exact .inr ⟨H.length, 1, .opn, [], rfl, hm, by simp; rfl, rfl, by rw [Enc.row_length]; rfl⟩
  cases hv1
  rename_i L c hL hcap
  have hsz : Enc.str.sz = 1 := rfl
  rw [Enc.row_length, hsz, Nat.mul_one, Nat.mul_one] at hb4
  subst hb4
  obtain ⟨g1, g2, g3, ca, e, fz, g4, g5, g6, g7, g8, g9⟩ := (BlkRel.own_iff (B := ⟨Enc.str.row xs ++ rest, 1, st⟩) hb3).1 (hR.blk b _ L hb2 hL)
  simp only at g3 g6 g9
  have hc1 : xs.length ≤ c := hcap.1
  have hc2 : c ≤ maxLen := hcap.2.1
  have hc3 : c = L.size := by have := hcap.2.2 g1; rw [g3] at this; omega
  have hcell : ∀ (j : Nat) s, xs[j]? = some s → ca[L.o + j]? = some (.string ⟨s.toArray⟩) := fun j s hj => by
    obtain ⟨_, u, hu, hr⟩ := g9 j (.str s) (by
      have hjl := (List.getElem?_eq_some_iff.1 hj).1
      rw [List.getElem?_append_left (by rw [Enc.row_length]; show j < xs.length * 1; omega), row_get, hj]; rfl)
    rw [hu, rv_str_cells hr]
  have hwc : ∀ (j : Nat), w.cell? ⟨L.r, L.o + 0 + j, none⟩ = ca[L.o + j]? := fun j => by unfold World.cell?; simp only [g4, Nat.add_zero]; rfl
  generalize hvs : xs.map (fun s => Value.string ⟨s.toArray⟩) = olds
  have hol : olds.length = xs.length := by rw [← hvs, List.length_map]
  have hog : ∀ (j : Nat) u, olds[j]? = some u → ∃ s, xs[j]? = some s ∧ u = .string ⟨s.toArray⟩ := fun j u hj => by
    rw [← hvs, List.getElem?_map] at hj
    cases hx : xs[j]? with
    | none => rw [hx] at hj; cases hj
    | some s => rw [hx] at hj; cases hj; exact ⟨s, rfl, rfl⟩
  have hon : ∀ (j : Nat) s, xs[j]? = some s → olds[j]? = some (.string ⟨s.toArray⟩) := fun j s hj => by rw [← hvs, List.getElem?_map, hj]; rfl
  have hocell : ∀ (j : Nat) u, olds[j]? = some u → w.cell? ⟨L.r, L.o + 0 + j, none⟩ = some u := fun j u hj => by
    obtain ⟨s, h1, rfl⟩ := hog j u hj
    rw [hwc, hcell j s h1]
  have ho1 : ∀ u ∈ olds, u.oneCell' = true := fun u hu => by
    obtain ⟨j, hj, rfl⟩ := List.getElem_of_mem hu
    obtain ⟨s, _, h2⟩ := hog j _ (List.getElem?_eq_getElem hj)
    rw [h2]; rfl
  have hv1 : ∀ u ∈ [Value.string ⟨x.toArray⟩], u.oneCell' = true := fun u hu => by rw [List.mem_singleton.1 hu]; rfl
  have hsp : ∀ j, j < c → (w.cell? ⟨L.r, L.o + 0 + j, none⟩).isSome = true := fun j hj => by
    rw [hwc, Array.getElem?_eq_getElem (by omega)]; rfl
  have hfz : ∀ j, j < c → w.frozen? ⟨L.r, L.o + 0 + j, none⟩ = false := fun j hj => by
    unfold World.frozen?
    simp only [g4]
    have := g8 (L.o + 0 + j) (by omega)
    rw [Bool.eq_false_iff]
    intro h
    rw [Bool.and_eq_true, decide_eq_true_eq, decide_eq_true_eq] at h
    exact this h
  have hbl : b < H.length := (List.getElem?_eq_some_iff.1 hb2).1
  have hne2 : Lx.r ≠ L.r := fun e => hne (by rw [hR.inj vb b _ _ Lx L hx hb2 rfl hb3 hLx hL e]; rfl)
  -- in place
  have inplace : ∀ (w2 : World) (c' : Array Value), xs.length + 1 ≤ c → (∀ k, k ≠ L.r → w2.heap[k]? = w.heap[k]?) → w2.heap.size = w.heap.size → Below base w w2 → w2.heap[L.r]? = some (.cells c' e fz) → c'.size = ca.size → c'[L.o]? = some (.string ⟨x.toArray⟩) → (∀ (j : Nat) s, xs[j]? = some s → c'[L.o + (j + 1)]? = some (.string ⟨s.toArray⟩)) →
      ∃ v r H' φ', Ending.returned (.slice (some ⟨L.r, L.o + 0, none⟩) (xs.length + 1) c) = .returned v ∧ RV φ' r v ∧ Rel base φ' H' w2 ∧ Ext base φ H w φ' H' w2 ∧ (OwnE Enc.str m H' r (x :: xs) ∧ Keep (AV.sl b 0 xs.length none).blk H H' ∧ ∀ q, r.blk = some q → (AV.sl b 0 xs.length none).blk = some q ∨ H.length ≤ q) := fun w2 c' hroom h1 h2 h3 h4 h5 h6 h7 => by
    have hrel := own_rewr hR hb2 hL hb3 (w' := w2) (cs := Enc.str.row (x :: xs)) (c' := c') h1 h2 (fun c2 e2 fz2 hq => by rw [g4] at hq; cases hq; exact ⟨h4, h5⟩) (by rw [Enc.row_length, List.length_cons]; show (xs.length + 1) * 1 ≤ _; omega) (ahead_cells h6 h7)
    refine ⟨_, .sl b 0 (xs.length + 1) none, _, φ, rfl, .sl b 0 (xs.length + 1) none L c hL ⟨hroom, hc2, fun _ => by rw [g3]; omega⟩, hrel, ⟨fun _ _ => rfl, by simp, h3, fun _ _ h => h, fun _ _ h => .inl h⟩, .inr ⟨b, xs.length + 1, .opn, [], rfl, hb1, by rw [List.getElem?_set_self hbl, List.append_nil], rfl, by rw [Enc.row_length]; rfl⟩, ⟨by simp, fun d hd hdb => List.getElem?_set_ne fun e => hdb (by rw [e]; rfl)⟩, fun q hq => .inl hq⟩
  -- a new row
  have newrow : ∀ (w2 : World) (c' : Array Value) (cap : Nat) (te : TypeId), xs.length + 1 ≤ cap → cap ≤ maxLen → c'.size = cap → (∀ k, k < w.heap.size → w2.heap[k]? = w.heap[k]?) → w.heap.size ≤ w2.heap.size → Below base w w2 → w2.heap[w.heap.size]? = some (.cells c' te (0, 0)) → c'[0]? = some (.string ⟨x.toArray⟩) → (∀ (j : Nat) s, xs[j]? = some s → c'[j + 1]? = some (.string ⟨s.toArray⟩)) →
      ∃ v r H' φ', Ending.returned (.slice (some ⟨w.heap.size, 0, none⟩) (xs.length + 1) cap) = .returned v ∧ RV φ' r v ∧ Rel base φ' H' w2 ∧ Ext base φ H w φ' H' w2 ∧ (OwnE Enc.str m H' r (x :: xs) ∧ Keep (AV.sl b 0 xs.length none).blk H H' ∧ ∀ q, r.blk = some q → (AV.sl b 0 xs.length none).blk = some q ∨ H.length ≤ q) := fun w2 c' cap te h0 h0' h5 h1 h2 h3 h4 h6 h7 => by
    have hrel := new_row (sz := 1) hR (w' := w2) (cs := Enc.str.row (x :: xs)) h1 h2 h4 (by rw [Enc.row_length, List.length_cons]; show (xs.length + 1) * 1 ≤ _; omega)
      (fun i a ha => by have := ahead_cells (φ := φ) (x := x) (xs := xs) (c' := c') (o := 0) h6 (fun j s hj => by rw [Nat.zero_add]; exact h7 j s hj) i a ha; rwa [Nat.zero_add] at this)
    refine ⟨_, .sl H.length 0 (xs.length + 1) none, _, _, rfl, ?_, hrel, ⟨fun b hb => upd_other _ _ (by omega), by simp, h3, fun _ _ h => h, fun _ _ h => .inl h⟩, ?_, Keep.weak (Keep.app _ _ _), fun q hq => by cases hq; exact .inr (Nat.le_refl _)⟩
    · exact RV.sl (φ := upd φ H.length ⟨w.heap.size, 0, c'.size, 1, true⟩) H.length 0 (xs.length + 1) none _ cap (upd_same ..) ⟨h0, h0', fun _ => by show 0 + cap * 1 = c'.size; omega⟩
    · exact .inr ⟨H.length, xs.length + 1, .opn, [], rfl, hm, by simp; rfl, rfl, by rw [Enc.row_length]; rfl⟩
  have h63 : c ≤ 9223372036854775807 := by unfold maxLen at hc2; omega
  cases xs with
  | nil =>
    by_cases hroom : 0 + 1 ≤ c
    · have call := Any2.slices_Insert_string_end_room lays L.r (L.o + 0) 0 c Lx.r (Lx.o + 0) 1 cx [.string ⟨x.toArray⟩] w (by decide) hroom h63 rfl (fun j hj => by rw [Nat.add_zero (L.o + 0)]; exact hsp j (by omega)) (fun j hj => by rw [Nat.add_zero (L.o + 0)]; exact hfz j (by omega)) hxcell hv1
      rw [show lruRen.f 22 = 33 from rfl] at call
      refine Calls.mono call ?_
      rintro e2 w2 ⟨rfl, rfl⟩
      refine inplace _ (arrWr ca (L.o + 0 + 0) [.string ⟨x.toArray⟩]) hroom (fun k hk => setCells_other _ _ _ _ _ hk) (setCells_size _ _ _ _) (setCells_below _ _ _ g2 _ _) (setCells_heap _ _ _ _ _ _ _ g4) (arrWr_size _ _ _) ?_ (fun j s hj => by cases hj)
      rw [arrWr_get _ _ _ (by simp; omega), if_pos ⟨by omega, by simp⟩]
      simp
    · have hc0 : c = 0 := by omega
      have call := Any2.slices_Insert_string_end_grow lays (some ⟨L.r, L.o + 0, none⟩) 0 c Lx.r (Lx.o + 0) 1 cx [] [.string ⟨x.toArray⟩] w (by decide) (Nat.zero_le _) (by omega) (by decide) rfl rfl (fun h => by cases h) (fun a ha j u hj => by cases hj) hxcell hv1
      rw [show lruRen.f 22 = 33 from rfl] at call
      refine Calls.mono call ?_
      rintro e2 w2 ⟨rfl, rfl⟩
      generalize hcap2 : grownCap w (0 + 1) c (lruRen.t 9) = cap
      have hk1 : 1 ≤ cap := by rw [← hcap2]; exact grownCap_ge w 1 c _
      have hk2 : cap ≤ maxLen := by rw [← hcap2]; exact grownCap_le_maxLen w 1 c _ (by unfold maxLen; omega)
      generalize hc' : (([] ++ [Value.string ⟨x.toArray⟩]).toArray ++ Builtin.zeroCells (Value.string ⟨#[]⟩).cells (cap - (0 + 1)) : Array Value) = c'
      have hcs : c'.size = cap := by rw [← hc', Array.size_append, zero_size]; simp; omega
      exact newrow _ c' cap _ hk1 hk2 hcs (fun k hk => Below.heap_alloc _ _ _ hk) (show w.heap.size ≤ (w.heap.push _).size by simp) (((Below.refl base w).drew).alloc hR.size _) (heap_alloc_new w.drew _) (by rw [← hc', Array.getElem?_append_left (by simp)]; rfl) (fun j s hj => by cases hj)
  | cons a xs' =>
    have hlen : (a :: xs').length = xs'.length + 1 := rfl
    by_cases hroom : (a :: xs').length + 1 ≤ c
    · have hx8 : w.frozen? ⟨Lx.r, Lx.o + 0, none⟩ = false := by
        unfold World.frozen?
        simp only [x4]
        have := x8 (Lx.o + 0) (Array.getElem?_eq_some_iff.1 hxv).1
        rw [Bool.eq_false_iff]
        intro h
        rw [Bool.and_eq_true, decide_eq_true_eq, decide_eq_true_eq] at h
        exact this h
      have hx7 : w.frozen? ⟨Lx.r, xc.size, none⟩ = false := by
        unfold World.frozen?
        simp only [x4]
        have := (x7 rfl).2
        rw [Bool.eq_false_iff]
        intro h
        rw [Bool.and_eq_true, decide_eq_true_eq, decide_eq_true_eq] at h
        exact this h
      have call := Any2.slices_Insert_string_shift lays L.r (L.o + 0) (a :: xs').length c 0 Lx.r (Lx.o + 0) 1 cx olds [.string ⟨x.toArray⟩] w (by omega) (by decide) hroom h63 hne2 hol rfl hocell (fun j hj => hsp j (by omega)) (fun j hj => hfz j (by omega)) hxcell ho1 hv1 xe e xc.size ca.size (by unfold World.shape?; simp only [x4]) (by unfold World.shape?; simp only [g4]) (by omega) hx8 hx7
      rw [show lruRen.f 22 = 33 from rfl] at call
      refine Calls.mono call ?_
      rintro e2 w2 ⟨rfl, rfl⟩
      have q1 : (w.drew.setCells L.r (L.o + 0 + (0 + 1)) (olds.drop 0)).heap[L.r]? = some (.cells (arrWr ca (L.o + 0 + (0 + 1)) (olds.drop 0)) e fz) := setCells_heap _ _ _ _ _ _ _ (show w.drew.heap[L.r]? = _ from g4)
      have hod : (olds.drop 0).length = (a :: xs').length := by rw [List.drop_zero]; exact hol
      have hsz1 : (arrWr ca (L.o + 0 + (0 + 1)) (olds.drop 0)).size = ca.size := arrWr_size _ _ _
      refine inplace _ (arrWr (arrWr ca (L.o + 0 + (0 + 1)) (olds.drop 0)) (L.o + 0) [.string ⟨x.toArray⟩]) hroom (fun k hk => by rw [setCells_other _ _ _ _ _ hk, setCells_other _ _ _ _ _ hk]; rfl) (by rw [setCells_size, setCells_size]; rfl) (((Below.refl base w).drew.trans (setCells_below _ _ _ g2 _ _)).trans (setCells_below _ _ _ g2 _ _)) (setCells_heap _ _ _ _ _ _ _ q1) (by rw [arrWr_size, arrWr_size]) ?_ (fun j s hj => ?_)
      · rw [arrWr_get _ _ _ (by rw [hsz1]; show L.o + 0 + 1 ≤ _; omega), if_pos ⟨by omega, by simp⟩]
        simp
      · have hjl := (List.getElem?_eq_some_iff.1 hj).1
        rw [arrWr_get _ _ _ (by rw [hsz1]; show L.o + 0 + 1 ≤ _; omega), if_neg (by simp <;> omega), arrWr_get _ _ _ (by omega), if_pos ⟨by omega, by omega⟩, show L.o + (j + 1) - (L.o + 0 + (0 + 1)) = j by omega, List.drop_zero, hon j s hj]
    · have call := Any2.slices_Insert_string_grow lays L.r (L.o + 0) (a :: xs').length c 0 Lx.r (Lx.o + 0) 1 cx olds [.string ⟨x.toArray⟩] w (by omega) (by decide) hc1 (by omega) (by omega) hol rfl hocell hxcell ho1 hv1
      rw [show lruRen.f 22 = 33 from rfl] at call
      refine Calls.mono call ?_
      rintro e2 w2 ⟨rfl, rfl⟩
      generalize hcap2 : grownCap w ((a :: xs').length + 1) c (lruRen.t 9) = cap
      have hk1 : (a :: xs').length + 1 ≤ cap := by rw [← hcap2]; exact grownCap_ge w _ c _
      have hk2 : cap ≤ maxLen := by rw [← hcap2]; exact grownCap_le_maxLen w _ c _ (by unfold maxLen; omega)
      generalize hc0 : ((olds.take 0).toArray ++ Builtin.zeroCells (Value.string ⟨#[]⟩).cells ((a :: xs').length + 1 - 0) ++ Builtin.zeroCells (Value.string ⟨#[]⟩).cells (cap - ((a :: xs').length + 1)) : Array Value) = c0
      have hcs0 : c0.size = cap := by rw [← hc0, Array.size_append, Array.size_append, zero_size, zero_size]; simp; omega
      have r0 : (w.alloc (.cells c0 (lruRen.t 9))).heap[w.heap.size]? = some (.cells c0 (lruRen.t 9) (0, 0)) := heap_alloc_new w _
      have r1 : (((w.alloc (.cells c0 (lruRen.t 9))).drew).setCells w.heap.size 0 [.string ⟨x.toArray⟩]).heap[w.heap.size]? = some (.cells (arrWr c0 0 [.string ⟨x.toArray⟩]) (lruRen.t 9) (0, 0)) := setCells_heap _ _ _ _ _ _ _ r0
      have r2 : ((((w.alloc (.cells c0 (lruRen.t 9))).drew).setCells w.heap.size 0 [.string ⟨x.toArray⟩]).drew.setCells w.heap.size (0 + 1) (olds.drop 0)).heap[w.heap.size]? = some (.cells (arrWr (arrWr c0 0 [.string ⟨x.toArray⟩]) (0 + 1) (olds.drop 0)) (lruRen.t 9) (0, 0)) := setCells_heap _ _ _ _ _ _ _ (show (((w.alloc (.cells c0 (lruRen.t 9))).drew).setCells w.heap.size 0 [.string ⟨x.toArray⟩]).heap[w.heap.size]? = _ from r1)
      have hod : (olds.drop 0).length = (a :: xs').length := by rw [List.drop_zero]; exact hol
      have hsz0 : (w.alloc (.cells c0 (lruRen.t 9))).heap.size = w.heap.size + 1 := by show (w.heap.push _).size = _; simp
      refine newrow _ (arrWr (arrWr c0 0 [.string ⟨x.toArray⟩]) (0 + 1) (olds.drop 0)) cap _ hk1 hk2 (by rw [arrWr_size, arrWr_size]; exact hcs0) (fun k hk => ?_) ?_ ?_ r2 ?_ (fun j s hj => ?_)
      · rw [setCells_other _ _ _ _ _ (by omega)]
        show (((w.alloc (.cells c0 (lruRen.t 9))).drew).setCells w.heap.size 0 [.string ⟨x.toArray⟩]).heap[k]? = _
        rw [setCells_other _ _ _ _ _ (by omega)]
        exact Below.heap_alloc _ _ _ hk
      · rw [setCells_size]
        show w.heap.size ≤ (((w.alloc (.cells c0 (lruRen.t 9))).drew).setCells w.heap.size 0 [.string ⟨x.toArray⟩]).heap.size
        rw [setCells_size]
        show w.heap.size ≤ (w.alloc (.cells c0 (lruRen.t 9))).heap.size
        omega
      · exact ((((Below.refl base w).alloc hR.size _).drew.trans (setCells_below _ _ _ hR.size _ _)).drew).trans (setCells_below _ _ _ hR.size _ _)
      · rw [arrWr_get _ _ _ (by rw [arrWr_size]; omega), if_neg (by omega), arrWr_get _ _ _ (by simp; omega), if_pos ⟨by omega, by simp⟩]
        simp
      · have hjl := (List.getElem?_eq_some_iff.1 hj).1
        rw [arrWr_get _ _ _ (by rw [arrWr_size]; omega), if_pos ⟨by omega, by omega⟩, show j + 1 - (0 + 1) = j by omega, List.drop_zero, hon j s hj]
end Go.Proofs.Ytakllaigpjbgdaa
