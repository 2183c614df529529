/-! Bytes in pieces; messages: what is said, with no program in sight. -/
namespace Go.Proofs.PI
def piecesGo (b : List UInt8) : Nat → List Int → Option (List (List UInt8))
  | f, [] => some [b.drop f]
  | f, a :: l => if a < f ∨ a > b.length then none else (piecesGo b a.toNat l).map ((b.take a.toNat).drop f :: ·)
def piecesL (b : List UInt8) (l : List Int) : List (List UInt8) × Int :=
  if b.length > 16384 then ([], 3) else if l.length > 256 then ([], 4) else match piecesGo b 0 l with
    | some p => (p, 0)
    | none => ([], 2)
def joinGo : List UInt8 → List (List UInt8) → Option (List UInt8)
  | acc, [] => some acc
  | acc, p :: l => if acc.length + p.length > 16384 then none else joinGo (acc ++ p) l
def joinL (l : List (List UInt8)) : List UInt8 × Int :=
  if l.length > 257 then ([], 4) else match joinGo [] l with
    | some p => (p, 0)
    | none => ([], 3)
def sendL (l : List (List UInt8)) (m : List UInt8) : List (List UInt8) × Int :=
  if l.length > 64 then ([], 4) else if m.length > 65600 then ([], 3) else if l.length = 64 then ([], 9) else (l ++ [m], 0)
def stepL (l : List (List UInt8)) (k : Int) (at_ : Int) : List (List UInt8) × List UInt8 × Int :=
  if l.length > 64 then ([], [], 4) else if k > 2 then ([], [], 2) else if at_ < 0 ∨ at_ ≥ l.length then ([], [], 6) else
    (if k = 1 then l else l.eraseIdx at_.toNat, if k = 2 then [] else l.getD at_.toNat [], 0)
def stepX (ls : List (List UInt8)) (k : Int) (p i : Nat) : List (List UInt8) := (if k = 1 then ls else ls.eraseIdx p).take (if k = 1 ∨ i ≤ p then i else i - 1)
theorem stepX_put {ls : List (List UInt8)} {k : Int} {p i : Nat} (hp : p < ls.length) (hi : i < ls.length) (h : k = 1 ∨ i ≠ p) : stepX ls k p (i + 1) = stepX ls k p i ++ [ls[i]] := by
  unfold stepX
  by_cases hk : k = 1
  · simp only [hk, if_true, true_or]; rw [List.take_succ_eq_append_getElem hi]
  · have hne : i ≠ p := h.resolve_left hk
    simp only [hk, if_false, false_or]
    have hlen : (ls.eraseIdx p).length = ls.length - 1 := List.length_eraseIdx_of_lt hp
    by_cases hlt : i < p
    · rw [if_pos (show i + 1 ≤ p by omega), if_pos (show i ≤ p by omega), List.take_succ_eq_append_getElem (by omega)]
      congr 2
      rw [List.getElem_eraseIdx_of_lt (h := by omega) (h' := hlt)]
    · rw [if_neg (show ¬ i + 1 ≤ p by omega), if_neg (show ¬ i ≤ p by omega)]
      obtain ⟨j, rfl⟩ : ∃ j, i = j + 1 := ⟨i - 1, by omega⟩
      simp only [Nat.add_sub_cancel]
      rw [List.take_succ_eq_append_getElem (by omega)]
      congr 2
      rw [List.getElem_eraseIdx_of_ge (h := by omega) (h' := by omega)]
theorem stepX_skip {ls : List (List UInt8)} {k : Int} {p i : Nat} (hk : k ≠ 1) (h : i = p) : stepX ls k p (i + 1) = stepX ls k p i := by
  subst h
  unfold stepX
  simp only [hk, if_false, false_or, if_neg (show ¬ i + 1 ≤ i by omega), Nat.le_refl, if_true, Nat.add_sub_cancel]
theorem stepX_end {ls : List (List UInt8)} {k : Int} {p : Nat} (hp : p < ls.length) : stepX ls k p ls.length = if k = 1 then ls else ls.eraseIdx p := by
  unfold stepX
  by_cases hk : k = 1
  · simp [hk]
  · simp only [hk, if_false, false_or, if_neg (show ¬ ls.length ≤ p by omega)]
    rw [List.take_of_length_le (by rw [List.length_eraseIdx_of_lt hp]; omega)]
theorem stepX_len {ls : List (List UInt8)} {k : Int} {p i : Nat} : (stepX ls k p i).length ≤ ls.length := by
  unfold stepX
  rw [List.length_take]
  have : (if k = 1 then ls else ls.eraseIdx p).length ≤ ls.length := by
    split
    · exact Nat.le_refl _
    · exact List.length_eraseIdx_le ..
  omega
end Go.Proofs.PI
