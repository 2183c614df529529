import Derived.Test.YtkmkhiipiflelaaPiJ
/-! PI, part O: regions that draw their order: why one plan serves for all. -/
set_option linter.unusedVariables false
set_option linter.unusedSimpArgs false
namespace Go.Proofs.PI
open Go.RowKit
section
variable {P : Program} {T : TypeId → Option TD} {n : Nat}

/-! ### What is no effect -/
def aval (T : TypeId → Option TD) (ev : Operand → AV) (H : Heap) : Op → Option AV
  | .store .. => none
  | .alloc _ => none
  | .box _ _ => none
  | .buildSlice .. => none
  | .makeSlice .. => none
  | .load t x => aload T H t (ev x)
  | .slice t x lo hi mx => aslice T H t (ev x) (lo.map ev) (hi.map ev) (mx.map ev)
  | .convert src dst x => match tk T src, tk T dst with
    | .slice _, .str => abytesStr T H src dst (ev x)
    | .str, .slice _ => none
    | _, _ => aconv T src dst (ev x)
  | op => apure T ev op

def Made (T : TypeId → Option TD) (ev : Operand → AV) (op : Op) (v : AV) (rc : RC) : Prop :=
  ∀ H', rc.ok T H' → (aval T ev H' op = some v) ∨ ∃ s H₀ B mk, rc = .blk s H₀ ∧ H₀[s]? = some B ∧ aalloc T ev op = some (B, mk) ∧ v = mk s

theorem mkRC_conv {ev : Operand → AV} {v : AV} {s : Nat} {H : Heap} {src dst : TypeId} {x : Operand} (k1 : ∀ e, tk T src = .slice e → tk T dst = .str → False) (k2 : ∀ e, tk T src = .str → tk T dst = .slice e → False) :
    mkRC T ev v s H (.convert src dst x) = .pure := by
  unfold mkRC
  dsimp only
  split
  · rename_i q1 q2; exact (k1 _ q1 q2).elim
  · rename_i q1 q2; exact (k2 _ q1 q2).elim
  · rfl
theorem aval_conv {ev : Operand → AV} {H : Heap} {src dst : TypeId} {x : Operand} (k1 : ∀ e, tk T src = .slice e → tk T dst = .str → False) (k2 : ∀ e, tk T src = .str → tk T dst = .slice e → False) :
    aval T ev H (.convert src dst x) = aconv T src dst (ev x) := by
  unfold aval
  dsimp only
  split
  · rename_i q1 q2; exact (k1 _ q1 q2).elim
  · rename_i q1 q2; exact (k2 _ q1 q2).elim
  · rfl
theorem made_val {ev : Operand → AV} {op : Op} {v : AV} {s : Nat} {H H₀ : Heap} (h : aval T ev H op = some v) : Made T ev op v (mkRC T ev v s H₀ op) ∧ (mkRC T ev v s H₀ op).ok T H ∧ ∀ s' H', mkRC T ev v s H₀ op ≠ .blk s' H' := by
  cases op <;> simp only [aval, reduceCtorEq] at h <;> try (refine ⟨fun H' _ => .inl (by simpa only [aval] using h), by simp [mkRC, RC.ok], fun s' H' => by simp [mkRC]⟩)
  case load t x => exact ⟨fun H' h' => .inl (by simpa [aval, mkRC, RC.ok] using h'), by simpa [mkRC, RC.ok] using h, fun s' H' => by simp [mkRC]⟩
  case slice t x lo hi mx => exact ⟨fun H' h' => .inl (by simpa [aval, mkRC, RC.ok] using h'), by simpa [mkRC, RC.ok] using h, fun s' H' => by simp [mkRC]⟩
  case convert src dst x =>
    split at h
    · rename_i h1 h2
      have e1 : mkRC T ev v s H₀ (.convert src dst x) = .bytes src dst (ev x) v := by simp only [mkRC, h1, h2]
      rw [e1]
      exact ⟨fun H' h' => .inl (by simp only [aval, h1, h2]; exact h'), h, fun s' H' => by simp⟩
    · cases h
    · rename_i k1 k2
      rw [mkRC_conv k1 k2]
      exact ⟨fun H' h' => .inl ((aval_conv k1 k2).trans h), trivial, fun s' H' => by simp⟩

theorem WOp_split {ev : Operand → AV} {o : Oper} {H : Heap} {K : AV → Heap → Prop} (he : isEff o.op = false) (h : WOp P T ev o H K) :
    (∃ v, aval T ev H o.op = some v ∧ K v H) ∨ (∃ B mk, aalloc T ev o.op = some (B, mk) ∧ K (mk H.length) (H ++ [B]) ∧ ∀ v s H₀, mkRC T ev v s H₀ o.op = .blk s H₀) := by
  have hx1 : ∀ (x : Option AV), On1 x (atH K H) → ∃ v, x = some v ∧ K v H := fun x h => by
    cases x with
    | none => exact h.elim
    | some v => exact ⟨v, rfl, h⟩
  have hx2 : ∀ x, OnB x (snocK K H) → ∃ B mk, x = some (B, mk) ∧ K (mk H.length) (H ++ [B]) := fun x h => by
    cases x with
    | none => exact h.elim
    | some q => exact ⟨q.1, q.2, rfl, h⟩
  unfold WOp at h
  split at h
  · rename_i ho; rw [ho] at he; simp [isEff] at he
  · rename_i t x ho; obtain ⟨v, h1, h2⟩ := hx1 _ h; exact .inl ⟨v, by rw [ho]; exact h1, h2⟩
  · rename_i t x lo hi mx ho; obtain ⟨v, h1, h2⟩ := hx1 _ h; exact .inl ⟨v, by rw [ho]; exact h1, h2⟩
  · rename_i e ho; obtain ⟨B, mk, h1, h2⟩ := hx2 _ h; exact .inr ⟨B, mk, by rw [ho]; exact h1, h2, fun v s H₀ => by rw [ho]; rfl⟩
  · rename_i e x ho; obtain ⟨B, mk, h1, h2⟩ := hx2 _ h; exact .inr ⟨B, mk, by rw [ho]; exact h1, h2, fun v s H₀ => by rw [ho]; rfl⟩
  · rename_i t len parts ho; obtain ⟨B, mk, h1, h2⟩ := hx2 _ h; exact .inr ⟨B, mk, by rw [ho]; exact h1, h2, fun v s H₀ => by rw [ho]; rfl⟩
  · rename_i t l c ho; obtain ⟨B, mk, h1, h2⟩ := hx2 _ h; exact .inr ⟨B, mk, by rw [ho]; exact h1, h2, fun v s H₀ => by rw [ho]; rfl⟩
  · rename_i src dst x ho
    split at h
    · rename_i k1 k2
      obtain ⟨v, h1, h2⟩ := hx1 _ h
      exact .inl ⟨v, by rw [ho]; simpa only [aval, k1, k2] using h1, h2⟩
    · rename_i k1 k2
      obtain ⟨B, mk, h1, h2⟩ := hx2 _ h
      exact .inr ⟨B, mk, by rw [ho]; exact h1, h2, fun v s H₀ => by rw [ho]; simp only [mkRC, k1, k2]⟩
    · rename_i k1 k2
      obtain ⟨v, h1, h2⟩ := hx1 _ h
      refine .inl ⟨v, ?_, h2⟩
      rw [ho, aval_conv k1 k2]; exact h1
  · rename_i c ho
    unfold WCall at h
    rw [ho] at he
    unfold isEff at he
    split at h
    · rename_i f hc; simp [hc] at he
    · rename_i hc; simp [hc] at he
    · rename_i hc; simp [hc] at he
    · obtain ⟨v, h1, h2⟩ := hx1 _ h
      exact .inl ⟨v, by rw [ho] at h1 ⊢; exact h1, h2⟩
  · rename_i ho; rw [ho] at he; simp [isEff] at he
  · rename_i ho; rw [ho] at he; simp [isEff] at he
  · rename_i ho; rw [ho] at he; simp [isEff] at he
  · obtain ⟨v, h1, h2⟩ := hx1 _ h
    refine .inl ⟨v, ?_, h2⟩
    unfold aval
    split <;> first | exact h1 | (exfalso; simp_all; done) | (exfalso; simp_all; rename_i k q; exact k _ _ _ _ _ rfl rfl rfl rfl rfl)

theorem WOp_of_aval {ev : Operand → AV} {o : Oper} {H : Heap} {K : AV → Heap → Prop} {v : AV} (he : isEff o.op = false) (h : aval T ev H o.op = some v) (hK : K v H) : WOp P T ev o H K := by
  unfold aval at h
  unfold WOp
  split
  · rename_i ho; rw [ho] at h; cases h
  · rename_i ho; rw [ho] at h; simp only at h; rw [h]; exact hK
  · rename_i ho; rw [ho] at h; simp only at h; rw [h]; exact hK
  · rename_i ho; rw [ho] at h; cases h
  · rename_i ho; rw [ho] at h; cases h
  · rename_i ho; rw [ho] at h; cases h
  · rename_i ho; rw [ho] at h; cases h
  · rename_i src dst x ho
    rw [ho] at h; simp only at h
    split
    · rename_i k1 k2; simp only [k1, k2] at h; rw [h]; exact hK
    · rename_i k1 k2; simp only [k1, k2, reduceCtorEq] at h
    · rename_i k1 k2
      split at h
      · rename_i q1 q2; exact (k1 _ q1 q2).elim
      · cases h
      · rw [h]; exact hK
  · rename_i c ho
    rw [ho] at he
    unfold isEff at he
    unfold WCall
    split
    · rename_i f hc; simp [hc] at he
    · rename_i hc; simp [hc] at he
    · rename_i hc; simp [hc] at he
    · rw [ho] at h ⊢; simp only at h; rw [h]; exact hK
  · rename_i ho; rw [ho] at he; simp [isEff] at he
  · rename_i ho; rw [ho] at he; simp [isEff] at he
  · rename_i ho; rw [ho] at he; simp [isEff] at he
  · have h' : apure T ev o.op = some v := by
      split at h <;> first | exact h | (cases h; done) | (exfalso; simp_all; done) | (exfalso; simp_all; rename_i k q; exact k _ _ _ _ _ rfl rfl rfl rfl rfl)
    rw [h']; exact hK
end
end Go.Proofs.PI

