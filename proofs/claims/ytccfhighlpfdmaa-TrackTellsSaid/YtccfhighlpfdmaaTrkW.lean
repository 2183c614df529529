import Derived.Test.YtccfhighlpfdmaaTrkU2
set_option linter.unusedSimpArgs false
set_option linter.unusedVariables false
set_option maxRecDepth 100000
set_option maxHeartbeats 4000000
namespace Go.Proofs.Ytccfhighlpfdmaa
open Go Go.Proofs Go.Proofs.PI
/-! ### inputs -/
theorem inp_name {n : Nat} {x : List AV} (h : InpP T (n + 2) 38 x) : ∃ c : Nm, x = nmE.cells c ∧ c.key.length ≤ 140737488355328 := by
  obtain ⟨parts2, rfl, hl2, hp2⟩ := InpP.struct tk38 h
  obtain ⟨i0, i1, rfl⟩ := len2 hl2
  obtain ⟨t0, rfl, -⟩ := InpP.int tk3 (hp2 0 _ _ rfl rfl)
  obtain ⟨t1, rfl, hs⟩ := InpP.str tk9 (hp2 1 _ _ rfl rfl)
  exact ⟨⟨t0, t1⟩, rfl, by unfold reachBytes at hs; exact Nat.le_trans hs (by decide)⟩
theorem inp_tracked {n : Nat} {x : List AV} (h : InpP T (n + 4) 36 x) : ∃ t : Tk, x = tkE.cells t ∧ tkFit t := by
  obtain ⟨parts2, rfl, hl2, hp2⟩ := InpP.struct tk36 h
  obtain ⟨i0, i1, rfl⟩ := len2 hl2
  obtain ⟨t0, rfl⟩ := InpP.bool tk4 (hp2 0 _ _ rfl rfl)
  obtain ⟨t1, rfl, hs, -, hd⟩ := InpP.slice (E := nmE) (Pr := fun c => c.key.length ≤ 140737488355328) tk34 (fun x hx => inp_name hx) (hp2 1 _ _ rfl rfl)
  exact ⟨⟨t0, t1⟩, rfl, by have : t1.length * 24 ≤ reachBytes := hd _ td38; unfold reachBytes at this; show t1.length ≤ _; omega, hs⟩
theorem inp_track {n : Nat} {a : AV} (h : InpPV T (n + 6) 24 a) : ∃ l : List Tk, a = trAv l ∧ l.length ≤ 140737488355328 ∧ ∀ t ∈ l, tkFit t := by
  obtain ⟨l, rfl, h'⟩ := h.agg tk24
  obtain ⟨parts, rfl, hl, hp⟩ := InpP.struct tk24 h'
  obtain ⟨p0, rfl⟩ := len1 hl
  obtain ⟨t1, rfl, hs, -, hd⟩ := InpP.slice (E := tkE) (Pr := tkFit) tk22 (fun x hx => inp_tracked hx) (hp 0 _ _ rfl rfl)
  exact ⟨t1, rfl, by have : t1.length * 32 ≤ reachBytes := hd _ td36; unfold reachBytes at this; omega, hs⟩
theorem inp_nameV {n : Nat} {a : AV} (h : InpPV T (n + 3) 38 a) : ∃ c : Nm, a = c.av ∧ c.key.length ≤ 140737488355328 := by
  obtain ⟨l, rfl, h'⟩ := h.agg tk38
  obtain ⟨c, rfl, hc⟩ := inp_name h'
  exact ⟨c, rfl, hc⟩
/-! ### plain: what Read does -/
theorem readN_len (l : List Nm) (n : Nm) : (readN l n).length ≤ l.length + 1 := by
  unfold readN
  have := List.length_filter_le (fun m => !decide (m = n)) l
  rw [List.length_append, List.length_cons, List.length_nil]; omega
end Go.Proofs.Ytccfhighlpfdmaa

