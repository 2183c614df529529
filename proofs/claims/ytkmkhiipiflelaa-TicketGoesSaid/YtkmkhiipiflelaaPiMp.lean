import Derived.Test.YtkmkhiipiflelaaPiH
import Derived.MapKept
/-! PI, maps of texts to true, in memory of one's own. -/
set_option linter.unusedVariables false
set_option linter.unusedSimpArgs false
namespace Go.Proofs.PI
open Go.RowKit
def hasKey (cs : List AV) (s : List UInt8) : Bool := cs.any fun a => match a with
  | .str t => decide (t = s)
  | _ => false
def noMap (H : Heap) : Bool := H.all fun B => match B.st with
  | .mp => false
  | _ => true
def amake : Blk × (Nat → AV) := (⟨[], 0, .mp⟩, fun s => .mp s)
def alookup (H : Heap) (x k : AV) : Option AV := match x, k with
  | .mp b, .str s => match H[b]? with
    | some B => match B.st with
      | .mp => some (.bool (hasKey B.cells s))
      | _ => none
    | none => none
  | _, _ => none
def amapUpd (H : Heap) (m k v : AV) : Option Heap := match m, k, v with
  | .mp b, .str s, .bool true => match H[b]? with
    | some B => match B.st with
      | .mp => if hasKey B.cells s = false ∧ noMap (H.set b ⟨[], 0, .dead⟩) = true then some (H.set b ⟨B.cells ++ [.str s], B.esz, .mp⟩) else none
      | _ => none
    | none => none
  | _, _, _ => none
/-- A map of texts to truth values. -/
def MapTy (P : Program) (t : TypeId) : Prop := ∃ kt et, P.underlying t = some (.map kt et) ∧ P.underlying kt = some .string ∧ ∀ w, (zeroValue et).run P w = .ok (.bool false) w
section
variable {P : Program} {base : Nat} {φ : Ph} {H : Heap} {w : World}
theorem findNow_keys (s : List UInt8) : ∀ (cs : List AV) (es : List MapEntry) (i : Nat), es.length = cs.length → (∀ (j : Nat) a, cs[j]? = some a → ∃ t born, a = .str t ∧ es[j]? = some (⟨.string ⟨t.toArray⟩, .bool true, born⟩ : MapEntry)) →
    (hasKey cs s = false → Instr.findNow .string (.string ⟨s.toArray⟩) es i = some none) ∧ (hasKey cs s = true → ∃ j, Instr.findNow .string (.string ⟨s.toArray⟩) es i = some (some (j, .bool true)))
  | [], [], i, _, _ => ⟨fun _ => rfl, fun h => by cases h⟩
  | [], _ :: _, _, h, _ => by cases h
  | _ :: _, [], _, h, _ => by cases h
  | a :: cs, e :: es, i, hl, h => by
    obtain ⟨t, born, rfl, he⟩ := h 0 a rfl
    simp only [List.getElem?_cons_zero, Option.some.injEq] at he
    subst he
    have ih := findNow_keys s cs es (i + 1) (by simpa using hl) fun j a ha => by simpa using h (j + 1) a (by simpa using ha)
    have hk : hasKey (.str t :: cs) s = (decide (t = s) || hasKey cs s) := rfl
    rw [hk]
    simp only [Instr.findNow, Instr.sameNow]
    by_cases e1 : t = s
    · subst e1
      have e2 : ((⟨t.toArray⟩ : ByteArray) == ⟨t.toArray⟩) = true := by rw [MapKept.bytes_beq]
      rw [e2]
      simp
    · have e2 : ((⟨s.toArray⟩ : ByteArray) == ⟨t.toArray⟩) = false := by
        rw [Bool.eq_false_iff]
        intro h2
        have h2 := (MapKept.bytes_beq _ _).1 h2
        injection h2 with h3
        injection h3 with h4
        exact e1 h4.symm
      rw [e2]
      simp only [e1, decide_false, Bool.false_or]
      exact ih
theorem amake_run (t : TypeId) {ρ : Operand → Value} {o : Oper} (ho : o.op = .makeMap t none) (hR : Rel base φ H w) {s : Nat} (hs : H[s]? = some amake.1) (hun : φ s = none) :
    ∃ u w' L, (execOp ρ o).run P w = .ok (.value u) w' ∧ Rel base (upd φ s L) H w' ∧ RV (upd φ s L) (amake.2 s) u ∧ Below base w w' := by
  refine ⟨.map (some w.heap.size), w.alloc (.map #[] 0), ⟨w.heap.size, 0, 0, 0, false⟩, ?_, ?_, .mp s _ (upd_same ..), (Below.refl _ _).alloc hR.size _⟩
  · simp [execOp, ho, Instr.makeMap]
  · refine hR.catch0 hs hun (fun k hk => Below.heap_alloc _ _ _ hk) (Nat.le_refl _) (by simp) ?_
    exact ⟨hR.size, #[], 0, (MapKept.heap_alloc w _).1, rfl, fun i a ha => by cases ha⟩
theorem alookup_run {t : TypeId} (ht : MapTy P t) {x k v : AV} {x' k' : Value} (hR : Rel base φ H w) (hx : RV φ x x') (hk : RV φ k k') (h : alookup H x k = some v) :
    ∃ u, (Instr.lookup t x' k' false).run P w = .ok u w ∧ RV φ v u := by
  unfold alookup at h
  split at h
  · rename_i b s
    cases hx
    cases hk
    rename_i L hL
    split at h
    · rename_i B hB
      split at h
      · rename_i hst
        cases h
        obtain ⟨kt, et, h1, h2, h3⟩ := ht
        obtain ⟨hb, es, clk, hrow, hm1, hm2⟩ := (hR.blk b B L hB hL).mp_row hst
        obtain ⟨f1, f2⟩ := findNow_keys s B.cells es.toList 0 (by simpa using hm1) fun j a ha => by
          obtain ⟨t, born, e1, e2⟩ := hm2 j a ha
          exact ⟨t, born, e1, by simpa using e2⟩
        cases hh : hasKey B.cells s with
        | false =>
          refine ⟨.bool false, ?_, .bool _⟩
          simp [Instr.lookup, run_underlying h1, MapKept.run_getObj_map hrow, MapKept.run_checkKey h2 (show MapKept.IsKey .string (.string ⟨s.toArray⟩) from trivial), MapKept.run_findKey h2 (f1 hh), h3, Result.andThen]
        | true =>
          obtain ⟨j, f2⟩ := f2 hh
          refine ⟨.bool true, ?_, .bool _⟩
          simp [Instr.lookup, run_underlying h1, MapKept.run_getObj_map hrow, MapKept.run_checkKey h2 (show MapKept.IsKey .string (.string ⟨s.toArray⟩) from trivial), MapKept.run_findKey h2 f2, Result.andThen]
      · cases h
    · cases h
  · cases h
theorem amapUpd_run {t : TypeId} (ht : MapTy P t) {m k v : AV} {m' k' v' : Value} (hR : Rel base φ H w) (hm : RV φ m m') (hk : RV φ k k') (hv : RV φ v v') {G : Heap} (h : amapUpd H m k v = some G) :
    ∃ w', (Instr.mapUpdate t m' k' v').run P w = .ok () w' ∧ Rel base φ G w' ∧ Below base w w' ∧ G.length = H.length := by
  unfold amapUpd at h
  split at h
  · rename_i b s
    cases hm
    cases hk
    cases hv
    rename_i L hL
    split at h
    · rename_i B hB
      split at h
      · rename_i hst
        split at h
        · rename_i hc
          cases h
          obtain ⟨hc1, hc2⟩ := hc
          obtain ⟨kt, et, h1, h2, h3⟩ := ht
          obtain ⟨hb, es, clk, hrow, hm1, hm2⟩ := (hR.blk b B L hB hL).mp_row hst
          obtain ⟨f1, f2⟩ := findNow_keys s B.cells es.toList 0 (by simpa using hm1) fun j a ha => by
            obtain ⟨t, born, e1, e2⟩ := hm2 j a ha
            exact ⟨t, born, e1, by simpa using e2⟩
          have hset := MapKept.heap_set (o' := .map (es.push ⟨.string ⟨s.toArray⟩, .bool true, clk⟩) (clk + 1)) hrow
          refine ⟨{ w with heap := w.heap.setIfInBounds L.r (.map (es.push ⟨.string ⟨s.toArray⟩, .bool true, clk⟩) (clk + 1)) }, ?_, ?_, ⟨rfl, rfl, rfl, by simp, fun k hk => hset.2 k (by omega)⟩, by simp⟩
          · simp [Instr.mapUpdate, run_underlying h1, MapKept.run_getObj_map hrow, MapKept.run_checkKey h2 (show MapKept.IsKey .string (.string ⟨s.toArray⟩) from trivial), MapKept.run_findKey h2 (f1 hc1), MapKept.run_setObj_map _ hrow, Result.andThen]
          · have hbl : b < H.length := (List.getElem?_eq_some_iff.1 hB).1
            have key : ∀ (d : Nat) (D : Blk), (H.set b ⟨B.cells ++ [.str s], B.esz, .mp⟩)[d]? = some D → (d = b ∧ D = ⟨B.cells ++ [.str s], B.esz, .mp⟩) ∨ (d ≠ b ∧ H[d]? = some D ∧ D.st ≠ .mp) := fun d D hD => by
              by_cases e : b = d
              · subst e
                rw [List.getElem?_set_self hbl] at hD
                exact .inl ⟨rfl, (Option.some.inj hD).symm⟩
              · rw [List.getElem?_set_ne e] at hD
                refine .inr ⟨fun e2 => e e2.symm, hD, fun hs => ?_⟩
                have hmem : D ∈ H.set b ⟨[], 0, .dead⟩ := List.mem_of_getElem? (i := d) (by rw [List.getElem?_set_ne e]; exact hD)
                have := List.all_eq_true.1 hc2 D hmem
                rw [hs] at this; cases this
            have hcell : ∀ (r i : Nat) u, w.cell? ⟨r, i, none⟩ = some u → ({ w with heap := w.heap.setIfInBounds L.r (.map (es.push ⟨.string ⟨s.toArray⟩, .bool true, clk⟩) (clk + 1)) } : World).cell? ⟨r, i, none⟩ = some u := fun r i u hu => by
              have hne : r ≠ L.r := fun e => by
                subst e
                unfold World.cell? at hu
                simp only [hrow] at hu
                cases hu
              rw [World.cell?_of_block (w := w) (hset.2 r hne)]; exact hu
            refine ⟨fun d D M hD hM => ?_, fun d d' D D' M M' hD hD' k1 k2 hM hM' hr => ?_, fun d M hM => by simpa using hR.dom d M hM, by simpa using hR.size, fun r z hz => ?_, fun r z d D M hz hD ho hM => ?_⟩
            · rcases key d D hD with ⟨rfl, rfl⟩ | ⟨hne, hD2, hnm⟩
              · rw [hL] at hM
                cases hM
                refine ⟨hb, _, _, hset.1, by simp [hm1], fun i a ha => ?_⟩
                by_cases hi : i < B.cells.length
                · rw [List.getElem?_append_left hi] at ha
                  obtain ⟨t, born, e1, e2⟩ := hm2 i a ha
                  refine ⟨t, born, e1, ?_⟩
                  rw [Array.getElem?_push, if_neg (by omega)]; exact e2
                · have hil := (List.getElem?_eq_some_iff.1 ha).1
                  simp only [List.length_append, List.length_cons, List.length_nil] at hil
                  have : i = B.cells.length := by omega
                  subst this
                  rw [List.getElem?_append_right (Nat.le_refl _), Nat.sub_self] at ha
                  simp only [List.getElem?_cons_zero, Option.some.injEq] at ha
                  subst ha
                  exact ⟨s, clk, rfl, by rw [Array.getElem?_push, if_pos (by omega)]⟩
              · have hrel := hR.blk d D M hD2 hM
                unfold BlkRel at hrel ⊢
                cases hs : D.st <;> rw [hs] at hrel <;> simp only at hrel ⊢
                · refine ⟨hrel.1, hrel.2.1, fun i a ha => ?_⟩
                  obtain ⟨g1, u, g2, g3⟩ := hrel.2.2 i a ha
                  exact ⟨g1, u, hcell _ _ _ g2, g3⟩
                rotate_left 2
                · exact absurd hs hnm
                all_goals
                  obtain ⟨g1, g2, g3, c, e, fz, g4, g5⟩ := hrel
                  refine ⟨g1, g2, g3, c, e, fz, ?_, g5⟩
                  rw [show ({ w with heap := w.heap.setIfInBounds L.r (.map (es.push ⟨.string ⟨s.toArray⟩, .bool true, clk⟩) (clk + 1)) } : World).heap[M.r]? = _ from hset.2 M.r (fun e2 => by rw [e2, hrow] at g4; cases g4)]
                  exact g4
            · rcases key d D hD with ⟨rfl, rfl⟩ | ⟨_, hD2, _⟩
              · cases k1
              · rcases key d' D' hD' with ⟨rfl, rfl⟩ | ⟨_, hD2', _⟩
                · cases k2
                · exact hR.inj d d' D D' M M' hD2 hD2' k1 k2 hM hM' hr
            · obtain ⟨g1, g2⟩ := hR.fzOk r z hz
              exact ⟨by simpa using g1, fun i u hu => hcell _ _ _ (g2 i u hu)⟩
            · rcases key d D hD with ⟨rfl, rfl⟩ | ⟨_, hD2, _⟩
              · cases ho
              · exact hR.fzSep r z d D M hz hD2 ho hM
        · cases h
      · cases h
    · cases h
  · cases h
end
end Go.Proofs.PI

