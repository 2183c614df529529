import Derived.Test.YtkmkhiipiflelaaPiU
/-! PI, part Y: contracts over memory that is written: what an old block holds afterwards is told as values; what was made on the way is gone. -/
set_option linter.unusedVariables false
set_option linter.unusedSimpArgs false
namespace Go.Proofs.PI
open Go.RowKit
section
variable {P : Program} {H : Heap} {base : Nat} {φ : Ph} {w : World}

/-- A value at the end of a call as it is told of behind it: old places stay, new memory is frozen. -/
inductive Melt (m : Nat) (H : Heap) : AV → AV → Prop
  | thaw {a c : AV} (h : Thaw m H a c) : Melt m H a c
  | ptr {b : Nat} (o : Nat) (hb : b < m) : Melt m H (.ptr b o) (.ptr b o)
  | sl {b : Nat} (o n : Nat) (cap : Option Nat) (hb : b < m) : Melt m H (.sl b o n cap) (.sl b o n cap)
  | agg (l l' : List AV) (hl : l.length = l'.length) (h : ∀ (i : Nat) a c, l[i]? = some a → l'[i]? = some c → Melt m H a c) : Melt m H (.agg l) (.agg l')
  | tup (l l' : List AV) (hl : l.length = l'.length) (h : ∀ (i : Nat) a c, l[i]? = some a → l'[i]? = some c → Melt m H a c) : Melt m H (.tup l) (.tup l')
theorem Melt.one {m : Nat} {a c : AV} (h : Melt m H a c) (ha : a.one = true) : c.one = true := by
  cases h with
  | thaw h => exact h.one ha
  | ptr => rfl
  | sl => rfl
  | agg => cases ha
  | tup => cases ha
theorem Melt.atom {m : Nat} {a : AV} (h : a.flat = true) : Melt m H a a := .thaw (.atom a h)
theorem Melt.row {m : Nat} : ∀ {l l' : List AV}, All2 (Melt m H) l l' → l.length = l'.length ∧ ∀ (i : Nat) a c, l[i]? = some a → l'[i]? = some c → Melt m H a c
  | [], [], _ => ⟨rfl, fun i a c h => by simp at h⟩
  | a :: l, b :: l', h => by
    obtain ⟨h1, h2⟩ := Melt.row h.2
    refine ⟨by simp [h1], fun i x y hx hy => ?_⟩
    cases i with
    | zero => simp at hx hy; subst hx; subst hy; exact h.1
    | succ i => exact h2 i x y (by simpa using hx) (by simpa using hy)
theorem Melt.agg_row {m : Nat} {l l' : List AV} (h : All2 (Melt m H) l l') : Melt m H (.agg l) (.agg l') := .agg l l' (Melt.row h).1 (Melt.row h).2
theorem Melt.tup_row {m : Nat} {l l' : List AV} (h : All2 (Melt m H) l l') : Melt m H (.tup l) (.tup l') := .tup l l' (Melt.row h).1 (Melt.row h).2
theorem Melt.rv {m : Nat} (hR : Rel base φ H w) {a c : AV} (h : Melt m H a c) : ∀ {v : Value}, RV φ a v → ∀ χ : Ph, (∀ b, b < m → χ b = φ b) → χ.fz = fzOf φ m H w → RV χ c v := by
  induction h with
  | thaw h => intro v hv χ hb hz; exact h.rv hR hv χ hz
  | ptr o hb' => intro v hv χ hb hz; cases hv; rename_i L hL; exact .ptr _ o L (by rw [hb _ hb']; exact hL)
  | sl o n cap hb' => intro v hv χ hb hz; cases hv; rename_i L c' hL hc; exact .sl _ o n cap L c' (by rw [hb _ hb']; exact hL) hc
  | agg l l' hl h ih =>
    intro v hv χ hb hz
    obtain ⟨us, rfl, hs⟩ := RV.agg_iff.1 hv
    refine .agg l' us (by rw [← hl]; have := hs.1; simpa using this) fun i c u hc hu => ?_
    have hi : i < l.length := by rw [hl]; exact (List.getElem?_eq_some_iff.1 hc).1
    exact ih i l[i] c (List.getElem?_eq_getElem hi) hc (hs.2 i _ u (List.getElem?_eq_getElem hi) (by simpa using hu)) χ hb hz
  | tup l l' hl h ih =>
    intro v hv χ hb hz
    obtain ⟨us, rfl, hs⟩ := RV.tup_iff.1 hv
    refine .tup l' us (by rw [← hl]; have := hs.1; simpa using this) fun i c u hc hu => ?_
    have hi : i < l.length := by rw [hl]; exact (List.getElem?_eq_some_iff.1 hc).1
    exact ih i l[i] c (List.getElem?_eq_getElem hi) hc (hs.2 i _ u (List.getElem?_eq_getElem hi) (by simpa using hu)) χ hb hz

/-! ### Own memory is given to a call as a value -/
/-- The value c instead of a: where a has a slice of block b, c has its cells. -/
inductive GiveR (B : Blk) (b : Nat) : AV → AV → Prop
  | same (a : AV) : GiveR B b a a
  | sl (o n : Nat) (cap : Option Nat) (cs : List AV) (hl : o + cs.length ≤ B.cells.length) (hc : ∀ (i : Nat) c, cs[i]? = some c → B.cells[o + i]? = some c ∧ c.flat = true) : GiveR B b (.sl b o n cap) (.lst n cs)
  | agg (l l' : List AV) (hl : l.length = l'.length) (h : ∀ (i : Nat) a c, l[i]? = some a → l'[i]? = some c → GiveR B b a c) : GiveR B b (.agg l) (.agg l')
theorem GiveR.whole {b n : Nat} {cap : Option Nat} {cs : List AV} {esz : Nat} {st : St} (h : ∀ a ∈ cs, a.flat = true) : GiveR ⟨cs, esz, st⟩ b (.sl b 0 n cap) (.lst n cs) :=
  .sl 0 n cap cs (by simp) fun i c hc => ⟨by simpa using hc, h c (List.mem_of_getElem? hc)⟩
theorem GiveR.row {B : Blk} {b : Nat} : ∀ {l l' : List AV}, All2 (GiveR B b) l l' → l.length = l'.length ∧ ∀ (i : Nat) a c, l[i]? = some a → l'[i]? = some c → GiveR B b a c
  | [], [], _ => ⟨rfl, fun i a c h => by simp at h⟩
  | a :: l, b :: l', h => by
    obtain ⟨h1, h2⟩ := GiveR.row h.2
    refine ⟨by simp [h1], fun i x y hx hy => ?_⟩
    cases i with
    | zero => simp at hx hy; subst hx; subst hy; exact h.1
    | succ i => exact h2 i x y (by simpa using hx) (by simpa using hy)
theorem GiveR.agg_row {B : Blk} {b : Nat} {l l' : List AV} (h : All2 (GiveR B b) l l') : GiveR B b (.agg l) (.agg l') := .agg l l' (GiveR.row h).1 (GiveR.row h).2
theorem RV.flat_bare {a : AV} {v : Value} (h : RV φ a v) (hf : a.flat = true) : ∀ {ψ : Ph}, (∀ r z, φ.fz r = some z → ψ.fz r = some z) → RV ψ a v := by
  intro ψ hz
  cases h with
  | int => exact .int _ _
  | bool => exact .bool _
  | str => exact .str _
  | nilp => exact .nilp
  | nils => exact .nils
  | emp a c => exact .emp _ _
  | nilf => exact .nilf
  | lst n cs r o c z h hc hl h1 hx => exact .lst n cs r o c z (hz r z h) hc hl h1 fun i a v ha hv => (hx i a v ha hv).mono (bare_sub hz)
  | lst0n => exact .lst0n
  | lst0e => exact .lst0e _ _
  | cptr cs r o z h hl h1 hx => exact .cptr cs r o z (hz r z h) hl h1 fun i a v ha hv => (hx i a v ha hv).mono (bare_sub hz)
  | nul => exact .nul _
  | _ => cases hf
/-- The row of block b is frozen. -/
def fzAdd (φ : Ph) (r : Nat) (z : List Value) : Ph := ⟨φ.loc, fun k => if k = r then some z else φ.fz k⟩
/-! ### A known block is written, read -/
section
variable {b : Nat} {B : Blk} (hb : H[b]? = some B) (C : Blk) (T : TypeId → Option TD) (t : TypeId) (o n : Nat) (v : AV) (L : List Blk)
include hb
theorem set_lt : b < H.length := (List.getElem?_eq_some_iff.1 hb).1
theorem get_set : (List.set H b C : Heap)[b]? = some C := List.getElem?_set_self (set_lt hb)
theorem get_set_app : (List.set H b C ++ L : Heap)[b]? = some C := by rw [List.getElem?_append_left (by rw [List.length_set]; exact set_lt hb)]; exact get_set hb C
theorem read_set : Heap.read (List.set H b C) b o n = if C.st.alive = true ∧ o + n ≤ C.cells.length then some ((C.cells.drop o).take n) else none := read_get (get_set hb C) o n
theorem read_set_app : Heap.read (List.set H b C ++ L : List Blk) b o n = if C.st.alive = true ∧ o + n ≤ C.cells.length then some ((C.cells.drop o).take n) else none := read_get (get_set_app hb C L) o n
theorem astore_set : astore T (List.set H b C) t (.ptr b o) v = match asize T t with
    | some n => if C.st.own = true ∧ v.solid = true ∧ v.cells.length = n ∧ o + v.cells.length ≤ C.cells.length then some (List.set H b ⟨wr C.cells o v.cells, C.esz, C.st⟩) else none
    | none => none := by
  rw [astore_get (get_set hb C) T t o v, List.set_set]; rfl
theorem astore_app : astore T (H ++ L : List Blk) t (.ptr b o) v = match asize T t with
    | some n => if B.st.own = true ∧ v.solid = true ∧ v.cells.length = n ∧ o + v.cells.length ≤ B.cells.length then some (List.set H b ⟨wr B.cells o v.cells, B.esz, B.st⟩ ++ L : List Blk) else none
    | none => none := by
  rw [astore_get (get_app hb L) T t o v]
  simp only [set_app hb]; rfl
theorem astore_set_app : astore T (List.set H b C ++ L : List Blk) t (.ptr b o) v = match asize T t with
    | some n => if C.st.own = true ∧ v.solid = true ∧ v.cells.length = n ∧ o + v.cells.length ≤ C.cells.length then some (List.set H b ⟨wr C.cells o v.cells, C.esz, C.st⟩ ++ L : List Blk) else none
    | none => none := by
  rw [astore_get (get_set_app hb C L) T t o v]
  simp only [set_app (get_set hb C), List.set_set]; rfl
end
theorem hget0s (H : Heap) (b : Nat) (C : Blk) (L : List Blk) : (List.set H b C ++ L : List Blk)[H.length]? = L[0]? := by have := hget0 (List.set H b C) L; rw [List.length_set] at this; exact this
theorem hgetks (H : Heap) (b : Nat) (C : Blk) (L : List Blk) (k : Nat) : (List.set H b C ++ L : List Blk)[H.length + k]? = L[k]? := by have := hgetk (List.set H b C) L k; rw [List.length_set] at this; exact this
theorem hread0s (H : Heap) (b : Nat) (C : Blk) (L : List Blk) (o n : Nat) : Heap.read (List.set H b C ++ L : List Blk) H.length o n = Heap.read L 0 o n := by unfold Heap.read; rw [hget0s]
theorem hreadks (H : Heap) (b : Nat) (C : Blk) (L : List Blk) (k o n : Nat) : Heap.read (List.set H b C ++ L : List Blk) (H.length + k) o n = Heap.read L k o n := by unfold Heap.read; rw [hgetks]
end
end Go.Proofs.PI

