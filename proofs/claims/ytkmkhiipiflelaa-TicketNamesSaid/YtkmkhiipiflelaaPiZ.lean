import Derived.Test.YtkmkhiipiflelaaPiX
import Derived.Test.YtkmkhiipiflelaaPiY
/-! PI, part Z: calls of values that are known are carried out by the kernel; their answers as values. -/
set_option linter.unusedVariables false
namespace Go.Proofs.PI
def thaws (f : AV → Option AV) : List AV → Option (List AV)
  | [] => some []
  | a :: l => match f a, thaws f l with
    | some c, some m => some (c :: m)
    | _, _ => none
/-- What a value is, memory and all. -/
def thawN : Nat → Heap → AV → Option AV
  | 0, _, _ => none
  | n + 1, H, a => match a with
    | .nils => some (.lst 0 [])
    | .emp => some (.lst 0 [])
    | .nul => some (.lst 0 [])
    | .sl b o m _ => match H[b]? with
      | some B => if B.st.own = true ∧ o + m * B.esz ≤ B.cells.length then (thaws (thawN n H) ((B.cells.drop o).take (m * B.esz))).map (.lst m) else none
      | none => none
    | .agg l => (thaws (thawN n H) l).map .agg
    | .tup l => (thaws (thawN n H) l).map .tup
    | .int k z => some (.int k z)
    | .bool b => some (.bool b)
    | .str s => some (.str s)
    | .nilp => some .nilp
    | .nilf => some .nilf
    | .lst m cs => some (.lst m cs)
    | .cptr cs => some (.cptr cs)
    | _ => none
theorem thaws_row {H : Heap} {f : AV → Option AV} (hf : ∀ a c, f a = some c → Thaw 0 H a c) : ∀ {l m : List AV}, thaws f l = some m → All2 (Thaw 0 H) l m
  | [], m, h => by simp only [thaws, Option.some.injEq] at h; subst h; trivial
  | a :: l, m, h => by
    unfold thaws at h
    split at h
    · rename_i c k hc hk
      simp only [Option.some.injEq] at h; subst h
      exact ⟨hf a c hc, thaws_row hf hk⟩
    · cases h
theorem thawN_ok {H : Heap} : ∀ (n : Nat) (a c : AV), thawN n H a = some c → Thaw 0 H a c
  | 0, a, c, h => by cases h
  | n + 1, a, c, h => by
    unfold thawN at h
    split at h
    · simp only [Option.some.injEq] at h; subst h; exact .nils
    · simp only [Option.some.injEq] at h; subst h; exact .emp
    · simp only [Option.some.injEq] at h; subst h; exact .nul
    · rename_i b o m cap
      split at h
      · rename_i B hB
        split at h
        · rename_i hc
          cases ht : thaws (thawN n H) ((B.cells.drop o).take (m * B.esz)) with
          | none => rw [ht] at h; cases h
          | some cs =>
            rw [ht] at h
            simp only [Option.map_some, Option.some.injEq] at h; subst h
            have hr := Thaw.row (thaws_row (thawN_ok n) ht)
            rw [List.length_take, List.length_drop] at hr
            refine .sl b o m cap B cs (Nat.zero_le _) hB hc.1 (by omega) fun i a c ha hci => hr.2 i a c ?_ hci
            have hi := (List.getElem?_eq_some_iff.1 hci).1
            rw [List.getElem?_take, if_pos (by omega), List.getElem?_drop]; exact ha
        · cases h
      · cases h
    · cases ht : thaws (thawN n H) ‹List AV› with
      | none => rw [ht] at h; cases h
      | some cs =>
        rw [ht] at h
        simp only [Option.map_some, Option.some.injEq] at h; subst h
        exact Thaw.agg_row (thaws_row (thawN_ok n) ht)
    · cases ht : thaws (thawN n H) ‹List AV› with
      | none => rw [ht] at h; cases h
      | some cs =>
        rw [ht] at h
        simp only [Option.map_some, Option.some.injEq] at h; subst h
        exact Thaw.tup_row (thaws_row (thawN_ok n) ht)
    all_goals first | (simp only [Option.some.injEq] at h; subst h; exact .atom _ rfl) | (cases h; done)
def xThaw (p : Option (AV × XH)) : Option AV := match p with
  | some (v, h) => thawN 9 h.to v
  | none => none
section
variable {P : Program} {T : TypeId → Option TD}
theorem xC_val (hT : TOk P T) (hm : P.follows .mixedOrders = true) {F : TT XF} (hF : F.Ok (XFOk P)) {k : Nat} {f : FuncId} {args : List AV} {c : AV} (ha : args.all AV.flatV = true) (h : xThaw (xC T F k f args ⟨0, []⟩) = some c) (H : Heap) :
    WC P f args H fun r H' => r = c ∧ H' = H := by
  refine WC_up ha ?_ H
  cases hx : xC T F k f args ⟨0, []⟩ with
  | none => rw [hx] at h; cases h
  | some p =>
    obtain ⟨v, h'⟩ := p
    rw [hx] at h
    have hw := (xC_ok hT hm hF k f args ⟨0, []⟩ _ _ rfl hx).2
    refine WC_froze (Q := fun r => r = c) (hw.mono fun r1 H1 ⟨e1, e2⟩ => ⟨c, ?_, ⟨by simp, fun b hb => by simp at hb⟩, rfl⟩)
    rw [e1, e2]
    exact thawN_ok 9 v c h
end
end Go.Proofs.PI
