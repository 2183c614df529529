import Derived.Test.YtakllaigpjbgdaaPiYa
set_option linter.unusedSimpArgs false
set_option linter.unusedVariables false
namespace Go.Proofs.PI
section
variable {P : Program} {H : Heap}
/-- An own slice in a slot is frozen: the slot holds it as a value from here on. -/
theorem WX_freezeF {nn : Nat} {c : Code} {fr : Fr} {Q : Exit → Fr → Heap → Prop} {m sz n : Nat} {v : AV} {cs : List AV} (hv : Own m H v sz cs) (hf : ∀ a ∈ cs, a.flat = true) (hn : cs.length = n * sz) (hsz : 0 < sz)
    (k : Nat) (hk : fr.get k = v) (h : ∀ G : Heap, Fz H v G → WX P nn c (fr.put (some k) (.lst n cs)) G Q) : WX P nn c fr H Q := by
  intro base φ w a hR hfr
  obtain ⟨ψ, G, k1, k2, kf, k5, k6, k7⟩ := hR.freeze hv hf hn hsz
  have h0 := hfr.mono k1
  have hfr2 : FRel ψ nn (fr.put (some k) (.lst n cs)) a := by
    refine ⟨h0.size, h0.defers, fun t u hu => ?_, fun t ht => ?_⟩
    · rw [Fr.get_put]
      split
      · rename_i e; subst e; exact k6 u (hk ▸ h0.tmp _ u hu)
      · exact h0.tmp t u hu
    · rw [Fr.get_put]
      split
      · rename_i e; subst e; exact k6 _ (hk ▸ h0.over _ ht)
      · exact h0.over t ht
  have k3 := kf.len
  refine Code.wp_mono ?_ (h G kf base ψ w a k5 hfr2)
  rintro e a' w' ⟨fr', H', χ, r1, r2, r3, r4⟩
  refine ⟨fr', H', χ, r1, r2, ⟨fun b hb => ?_, by have := r3.len; omega, r3.below, fun r z hz => r3.fz r z (k1.fz r z hz), fun r z hz => ?_⟩, r4⟩
  · rw [r3.keep b (by omega), k2]
  · rcases r3.fzn r z hz with h | h
    · exact k7 r z h
    · exact .inr h
theorem WX_freezeFE {α : Type} {E : Enc α} {nn : Nat} {c : Code} {fr : Fr} {Q : Exit → Fr → Heap → Prop} {m : Nat} {v : AV} {xs : List α} (ov : OwnE E m H v xs) (hsz : 0 < E.sz)
    (k : Nat) (hk : fr.get k = v) (h : ∀ G : Heap, Fz H v G → WX P nn c (fr.put (some k) (E.lst xs)) G Q) : WX P nn c fr H Q :=
  WX_freezeF (n := xs.length) ov (Enc.row_flat xs) (Enc.row_length xs) hsz k hk h
end
end Go.Proofs.PI
