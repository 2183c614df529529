import Derived.Test.YtkmkhiipiflelaaPiM
/-! PI, part N: all arguments of a law; what they read as behind the call. -/
set_option linter.unusedVariables false
set_option linter.unusedSimpArgs false
namespace Go.Proofs.PI
open Go.RowKit Go.WideShapes

/-- An argument. -/
def InpV (T : TypeId → Option TD) (H : Heap) (n : Nat) (t : TypeId) (a : AV) : Prop :=
  match tk T t with
  | .struct _ => ∃ l, a = .agg l ∧ Inp T H n t l
  | _ => Inp T H n t [a]
theorem InpV.append {T : TypeId → Option TD} {H : Heap} {n : Nat} {t : TypeId} {a : AV} (h : InpV T H n t a) (G : Heap) : InpV T (H ++ G) n t a := by
  unfold InpV at h ⊢
  split
  · rename_i fs hk
    simp only [hk] at h
    obtain ⟨l, h1, h2⟩ := h
    exact ⟨l, h1, h2.append G⟩
  · rename_i hk
    have : Inp T H n t [a] := by
      revert h
      split
      · rename_i fs hfs; exact absurd hfs (hk fs)
      · exact id
    exact this.append G

def InpAll (T : TypeId → Option TD) (H : Heap) (n : Nat) : List TypeId → List AV → Prop
  | [], [] => True
  | t :: ts, a :: as => InpV T H n t a ∧ InpAll T H n ts as
  | _, _ => False
theorem InpAll.append {T : TypeId → Option TD} {H : Heap} {n : Nat} : ∀ {ts : List TypeId} {as : List AV}, InpAll T H n ts as → ∀ G, InpAll T (H ++ G) n ts as
  | [], [], _, _ => trivial
  | t :: ts, a :: as, h, G => ⟨h.1.append G, h.2.append G⟩
  | [], _ :: _, h, _ => h.elim
  | _ :: _, [], h, _ => h.elim

theorem InpAll.cons {T : TypeId → Option TD} {H : Heap} {n : Nat} {t : TypeId} {ts : List TypeId} {l : List AV} (h : InpAll T H n (t :: ts) l) : ∃ a m, l = a :: m ∧ InpV T H n t a ∧ InpAll T H n ts m := by
  cases l with
  | nil => exact h.elim
  | cons a m => exact ⟨a, m, rfl, h.1, h.2⟩
theorem InpAll.nil {T : TypeId → Option TD} {H : Heap} {n : Nat} {l : List AV} (h : InpAll T H n [] l) : l = [] := by
  cases l with
  | nil => rfl
  | cons a m => exact h.elim
theorem Inp.str {T : TypeId → Option TD} {H : Heap} {n : Nat} {t : TypeId} {a : AV} (hk : tk T t = .str) (h : InpV T H (n + 1) t a) : ∃ s, a = .str s ∧ s.length ≤ reachBytes := by
  simp only [InpV, hk, Inp] at h
  obtain ⟨s, h1, h2⟩ := h
  simp only [List.cons.injEq, and_true] at h1
  exact ⟨s, h1, h2⟩
theorem Inp.int {T : TypeId → Option TD} {H : Heap} {n : Nat} {t : TypeId} {a : AV} {k : IntKind} (hk : tk T t = .int k) (h : InpV T H (n + 1) t a) : ∃ v, a = .int k v ∧ (Lit.int k v).wf = true := by
  simp only [InpV, hk, Inp] at h
  obtain ⟨s, h1, h2⟩ := h
  simp only [List.cons.injEq, and_true] at h1
  exact ⟨s, h1, h2⟩
theorem Inp.bool {T : TypeId → Option TD} {H : Heap} {n : Nat} {t : TypeId} {a : AV} (hk : tk T t = .bool) (h : InpV T H (n + 1) t a) : ∃ b, a = .bool b := by
  simp only [InpV, hk, Inp] at h
  obtain ⟨b, h1⟩ := h
  simp only [List.cons.injEq, and_true] at h1
  exact ⟨b, h1⟩

section
variable {P : Program} {T : TypeId → Option TD} {w : World}

theorem inpV_of_trod {K : Type} {enc : TypeId × Value → K} (hT : TOk P T) {spare : Nat → Bool} {held : Bool} {n : Nat} {t : TypeId} (hok : okTy T n t = true) {v : Value} {d : DataW K} {ps : List MemPlace} {r : Reach} {b0 : Nat}
    (hval : Value.okWide P w r b0 t v) (h : DataW.Trod enc P w 0 spare held t v d ps) (hwt : ∀ k ∈ d.weights P t, k ≤ reachBytes) {H : Heap} {φ : Ph} (hR : Rel w.heap.size φ H w) :
    ∃ (G : Heap) (φ' : Ph) (a : AV), Rel w.heap.size φ' (H ++ G) w ∧ Pres H φ φ' ∧ RV φ' a v ∧ InpV T (H ++ G) n t a := by
  obtain ⟨fuel, hf⟩ := h
  obtain ⟨G, φ', l, h1, h2, h3, h4, _⟩ := inp_of_trod hT n t hok fuel _ _ hf hwt H φ hR
  have one : v.cells = #[v] → (∀ fs, tk T t ≠ .struct fs) → ∃ (G : Heap) (φ' : Ph) (a : AV), Rel w.heap.size φ' (H ++ G) w ∧ Pres H φ φ' ∧ RV φ' a v ∧ InpV T (H ++ G) n t a := fun hv hk => by
    rw [hv] at h3
    have hl := h3.1
    simp only [List.length_cons, List.length_nil] at hl
    match l, hl with
    | [a], _ =>
      refine ⟨G, φ', a, h1, h2, h3.head, ?_⟩
      unfold InpV
      split
      · rename_i fs hfs; exact absurd hfs (hk fs)
      · exact h4
  cases n with
  | zero => simp [okTy] at hok
  | succ n =>
    have hok' := hok
    unfold okTy at hok'
    split at hok'
    · rename_i hk
      obtain ⟨dd, i, u, z, hd, hdk, hi⟩ := tk_is hT hk (by simp)
      obtain ⟨b, rfl⟩ := okWide_bool (by rw [hi.und, tkOf_bool (hi.k.trans hdk)]) hval
      exact one rfl (by rw [hk]; simp)
    · rename_i k hk
      obtain ⟨dd, i, u, z, hd, hdk, hi⟩ := tk_is hT hk (by simp)
      obtain ⟨b, rfl⟩ := okWide_int (by rw [hi.und, tkOf_int (hi.k.trans hdk)]) hval
      exact one rfl (by rw [hk]; simp)
    · rename_i hk
      obtain ⟨dd, i, u, z, hd, hdk, hi⟩ := tk_is hT hk (by simp)
      obtain ⟨b, rfl⟩ := okWide_string (by rw [hi.und, tkOf_str (hi.k.trans hdk)]) hval
      exact one rfl (by rw [hk]; simp)
    · rename_i e hk
      obtain ⟨dd, i, u, z, hd, hdk, hi⟩ := tk_is hT hk (by simp)
      obtain ⟨a, len, cap, rfl⟩ := okWide_slice (by rw [hi.und, tkOf_slice (hi.k.trans hdk)]) hval
      exact one rfl (by rw [hk]; simp)
    · rename_i fs hk
      obtain ⟨dd, i, u, z, hd, hdk, hi⟩ := tk_is hT hk (by simp)
      obtain ⟨gs, rfl, _⟩ := tkOf_struct (hi.k.trans hdk)
      obtain ⟨cs, rfl, _⟩ := okWide_struct hi.und hval
      refine ⟨G, φ', .agg l, h1, h2, RV.agg_iff.2 ⟨cs, rfl, h3⟩, ?_⟩
      unfold InpV
      rw [hk]
      exact ⟨l, rfl, h4⟩
    · cases hok'

theorem inpAll_of_trodAll {K : Type} {enc : TypeId × Value → K} (hT : TOk P T) {spare : Nat → Bool} {held : Bool} {n : Nat} {r : Reach} {b0 : Nat} : ∀ (ts : List TypeId) (vs : List Value) (ds : List (DataW K)) (ps : List MemPlace),
    ts.all (okTy T n) = true → (∀ (j : Nat) t v, ts[j]? = some t → vs[j]? = some v → Value.okWide P w r b0 t v) → DataW.TrodAll enc P w 0 spare held ts vs ds ps → (∀ k ∈ DataW.weightsEach P ts ds, k ≤ reachBytes) →
    ∀ (H : Heap) (φ : Ph), Rel w.heap.size φ H w → ∃ (G : Heap) (φ' : Ph) (as : List AV), Rel w.heap.size φ' (H ++ G) w ∧ Pres H φ φ' ∧ RVs φ' as vs ∧ InpAll T (H ++ G) n ts as
  | [], vs, ds, ps, _, _, h, _, H, φ, hR => by
    obtain ⟨rfl, _, _⟩ : vs = [] ∧ True ∧ True := by cases vs <;> cases ds <;> simp_all [DataW.TrodAll]
    exact ⟨[], φ, [], by simpa using hR, ⟨fun _ _ => rfl, rfl⟩, RVs.nil φ, trivial⟩
  | t :: ts, vs, ds, ps, hok, hval, h, hwt, H, φ, hR => by
    match vs, ds, h, hwt with
    | v :: vs, d :: ds, h, hwt =>
      obtain ⟨p, q, h1, h2, _⟩ := h
      simp only [List.all_cons, Bool.and_eq_true] at hok
      obtain ⟨G, φ', a, k1, k2, k3, k4⟩ := inpV_of_trod hT hok.1 (hval 0 t v rfl rfl) h1 (fun k hk => hwt k (by simp only [DataW.weightsEach, List.mem_append]; exact .inl hk)) hR
      obtain ⟨G', φ'', as, j1, j2, j3, j4⟩ := inpAll_of_trodAll hT ts vs ds q hok.2 (fun j t v ht hv => hval (j + 1) t v (by simpa using ht) (by simpa using hv)) h2 (fun k hk => hwt k (by simp only [DataW.weightsEach, List.mem_append]; exact .inr hk)) (H ++ G) φ' k1
      have hsub : φ'.le φ'' := ⟨fun b L hb => (j2.loc b (k1.dom b L hb)).trans hb, fun r z hz => by rw [j2.fz]; exact hz⟩
      rw [List.append_assoc] at j1 j4
      exact ⟨G ++ G', φ'', a :: as, j1, ⟨fun b hb => (j2.loc b (by simp; omega)).trans (k2.loc b hb), j2.fz.trans k2.fz⟩, RVs.cons (k3.mono hsub) j3, by rw [← List.append_assoc]; exact k4.append G', j4⟩

theorem weights_left {K : Type} : ∀ (ts ts' : List TypeId) (ds ds' : List (DataW K)), ∀ q ∈ DataW.weightsEach P ts ds, q ∈ DataW.weightsEach P (ts ++ ts') (ds ++ ds')
  | [], _, _, _, q, h => by simp [DataW.weightsEach] at h
  | _ :: _, _, [], _, q, h => by simp [DataW.weightsEach] at h
  | t :: ts, ts', d :: ds, ds', q, h => by
    simp only [DataW.weightsEach, List.mem_append, List.cons_append] at h ⊢
    rcases h with h | h
    · exact .inl h
    · exact .inr (weights_left ts ts' ds ds' q h)
theorem Rel.empty (w : World) : Rel w.heap.size ⟨fun _ => none, fun _ => none⟩ [] w :=
  ⟨fun b B L h => by simp at h, fun b c B C L M h => by simp at h, fun b L h => (by cases h), Nat.le_refl _, fun r z h => (by cases h), fun r z b B L h => (by cases h)⟩

/-- What was read reads so behind the call. -/
theorem trodAll_below {K : Type} {enc : TypeId × Value → K} (hl : laidOutB P = true) {W W' : World} (hb : Below W.heap.size W W') : ∀ (ts : List TypeId) (vs : List Value) (ds : List (DataW K)) (ps : List MemPlace),
    ts.all (fun t => P.readableRec t && decide (t < P.types.size)) = true → DataW.TrodAll enc P W 0 (fun _ => true) true ts vs ds ps → DataW.TrodAll enc P W' 0 (fun b => decide (b < W.heap.size)) true ts vs ds ps
  | [], vs, ds, ps, _, h => by
    match vs, ds, h with
    | [], [], h => exact h
  | t :: ts, vs, ds, ps, hok, h => by
    match vs, ds, h with
    | v :: vs, d :: ds, h =>
      obtain ⟨p, q, h1, h2, h3⟩ := h
      simp only [List.all_cons, Bool.and_eq_true, decide_eq_true_eq] at hok
      refine ⟨p, q, Below.trod hl hok.1.1 hok.1.2 h1 hb ?_, trodAll_below hl hb ts vs ds q hok.2 h2, h3⟩
      obtain ⟨m, hm⟩ := h1
      exact DataW.trod_lt m _ _ _ hm

end
end Go.Proofs.PI

