import Derived.Test.YtccfhighlpfdmaaTrkB2
set_option linter.unusedSimpArgs false
set_option linter.unusedVariables false
set_option maxRecDepth 100000
set_option maxHeartbeats 4000000
namespace Go.Proofs.Ytccfhighlpfdmaa
open Go Go.Proofs Go.Proofs.PI
theorem u8_wfi {v : Int} (h : (Lit.int .u8 v).wf = true) : 0 ≤ v ∧ v < 256 := by
  obtain ⟨b, rfl⟩ := u8_wf h
  have := b.toNat_lt; omega
theorem u32_wfi {v : Int} (h : (Lit.int .u32 v).wf = true) : 0 ≤ v ∧ v < 4294967296 := by
  simp [Lit.wf, IntKind.min, IntKind.max, IntKind.signed, IntKind.bits] at h; omega
/-! ### plain: what Change does -/
def hitB (cs : List Chg) (n : Nm) : Bool := cs.any fun c => tkHit c n
def hsum (cs : List Chg) (l : List Tk) : Nat := (l.map fun t => t.ns.countP (hitB cs)).sum
theorem inp_change {n : Nat} {x : List AV} (h : InpP T (n + 3) 45 x) : ∃ c : Chg, x = chgE.cells c ∧ c.Ok := by
  obtain ⟨parts, rfl, hl, hp⟩ := InpP.struct tk45 h
  obtain ⟨p0, p1, p2, p3, p4, p5, p6, rfl⟩ := len7 hl
  obtain ⟨parts2, rfl, hl2, hp2⟩ := InpP.struct tk43 (hp 2 _ _ rfl rfl)
  obtain ⟨i0, i1, i2, i3, i4, rfl⟩ := len5 hl2
  obtain ⟨s0, rfl, w0⟩ := InpP.int tk5 (hp 0 _ _ rfl rfl)
  obtain ⟨s1, rfl, -⟩ := InpP.int tk3 (hp 1 _ _ rfl rfl)
  obtain ⟨t0, rfl, -⟩ := InpP.str tk9 (hp2 0 _ _ rfl rfl)
  obtain ⟨t1, rfl, -⟩ := InpP.str tk9 (hp2 1 _ _ rfl rfl)
  obtain ⟨t2, rfl, x2⟩ := InpP.int tk40 (hp2 2 _ _ rfl rfl)
  obtain ⟨t3, rfl, -⟩ := InpP.int tk3 (hp2 3 _ _ rfl rfl)
  obtain ⟨t4, rfl, x4⟩ := InpP.int tk41 (hp2 4 _ _ rfl rfl)
  obtain ⟨s3, rfl, -⟩ := InpP.str tk9 (hp 3 _ _ rfl rfl)
  obtain ⟨s4, rfl, w4⟩ := InpP.int tk5 (hp 4 _ _ rfl rfl)
  obtain ⟨s5, rfl, -⟩ := InpP.int tk3 (hp 5 _ _ rfl rfl)
  obtain ⟨s6, rfl⟩ := InpP.bool tk4 (hp 6 _ _ rfl rfl)
  exact ⟨⟨s0, s1, t0, t1, t2, t3, t4, s3, s4, s5, s6⟩, rfl, ⟨u8_wfi w0, u32_wfi x2, u64_wf x4, u8_wfi w4⟩⟩
theorem inp_changes {n : Nat} {a : AV} (h : InpPV T (n + 4) 25 a) : ∃ l : List Chg, a = chgE.lst l ∧ (∀ c ∈ l, c.Ok) ∧ l.length ≤ 140737488355328 := by
  obtain ⟨xs, rfl, ho, -, hd⟩ := InpPV.slice (E := chgE) (Pr := Chg.Ok) tk25 (fun x hx => inp_change hx) h
  exact ⟨xs, rfl, ho, by have : xs.length * 112 ≤ reachBytes := hd _ td45; unfold reachBytes at this; omega⟩
end Go.Proofs.Ytccfhighlpfdmaa

