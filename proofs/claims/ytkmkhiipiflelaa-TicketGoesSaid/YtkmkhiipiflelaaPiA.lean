import Derived.Tactics
import Derived.Below
import Derived.WalkKit
import Derived.Orders
import Derived.Laws.AppendOwn
import Derived.Laws.OwnMore
import Derived.Laws.IdiomStrings
import Derived.Deep.AppendSrc
import Derived.Laws.StructEq
import Derived.KernelRfl
/-! PI, part A: abstract values with virtual blocks, the abstract heap, and what it means that they tell of a world. -/
set_option linter.unusedVariables false
set_option linter.unusedSimpArgs false
namespace Go.Proofs.PI
open Go.RowKit

/-- Abstract values. `ptr b o`, `sl b o len cap`: `b` is a virtual block. `cap`: `some c` exactly; `none`: up to the block's end. -/
inductive AV where
  | int (k : IntKind) (n : Int)
  | bool (b : Bool)
  | str (s : List UInt8)
  | nilp
  | ptr (b o : Nat)
  | nils
  | emp
  | sl (b o len : Nat) (cap : Option Nat)
  | agg (l : List AV)
  | tup (l : List AV)
  | fn (f : FuncId) (first caps : List AV)
  | nilf
  /-- A slice of n elements in memory that nobody writes any more; its cells. -/
  | lst (n : Nat) (cs : List AV)
  /-- A pointer into such memory: the cells from there on. -/
  | cptr (cs : List AV)
  /-- A slice without elements and without room. -/
  | nul
  /-- A map of texts to true: where it lies. -/
  | mp (b : Nat)
  | junk

/-- A value of one cell that is known. -/
def AV.one : AV → Bool
  | .agg _ | .tup _ | .junk => false
  | _ => true

/-- Where a virtual block lies. -/
structure Loc where
  r : Nat
  o : Nat
  size : Nat
  esz : Nat
  own : Bool

/-- Where virtual blocks lie; which rows of the world nobody writes any more, and their cells. -/
structure Ph where
  loc : Nat → Option Loc
  fz : Nat → Option (List Value)
instance : CoeFun Ph (fun _ => Nat → Option Loc) := ⟨Ph.loc⟩
structure Ph.le (φ ψ : Ph) : Prop where
  loc : ∀ b L, φ b = some L → ψ b = some L
  fz : ∀ r c, φ.fz r = some c → ψ.fz r = some c
theorem Ph.le.refl (φ : Ph) : φ.le φ := ⟨fun _ _ h => h, fun _ _ h => h⟩
theorem Ph.le.trans {φ ψ χ : Ph} (h : φ.le ψ) (k : ψ.le χ) : φ.le χ := ⟨fun b L hb => k.loc b L (h.loc b L hb), fun r c hr => k.fz r c (h.fz r c hr)⟩
/-- No virtual blocks. -/
def Ph.bare (φ : Ph) : Ph := ⟨fun _ => none, φ.fz⟩
theorem Ph.bare_le (φ : Ph) : φ.bare.le φ := ⟨fun b L hb => (by cases hb), fun _ _ h => h⟩
theorem Ph.le.bare {φ ψ : Ph} (h : φ.le ψ) : φ.bare.le ψ.bare := ⟨fun b L hb => (by cases hb), h.fz⟩

def capOk (L : Loc) (o len : Nat) (cap : Option Nat) (c : Nat) : Prop :=
  len ≤ c ∧ c ≤ maxLen ∧ match cap with
  | some k => c = k
  | none => L.own = true → o + c * L.esz = L.size

/-- The abstract value tells of the value. -/
inductive RV : Ph → AV → Value → Prop
  | int {φ : Ph} (k n) : RV φ (.int k n) (.int k n)
  | bool {φ : Ph} (b) : RV φ (.bool b) (.bool b)
  | str {φ : Ph} (s) : RV φ (.str s) (.string ⟨s.toArray⟩)
  | nilp {φ : Ph} : RV φ .nilp (.pointer none)
  | ptr {φ : Ph} (b o L) (h : φ b = some L) : RV φ (.ptr b o) (.pointer (some ⟨L.r, L.o + o, none⟩))
  | nils {φ : Ph} : RV φ .nils (.slice none 0 0)
  | emp {φ : Ph} (a c) : RV φ .emp (.slice (some a) 0 c)
  | sl {φ : Ph} (b o len cap L c) (h : φ b = some L) (hc : capOk L o len cap c) : RV φ (.sl b o len cap) (.slice (some ⟨L.r, L.o + o, none⟩) len c)
  | agg {φ : Ph} (l : List AV) (vs : Array Value) (hl : l.length = vs.size) (h : ∀ (i : Nat) a v, l[i]? = some a → vs[i]? = some v → RV φ a v) : RV φ (.agg l) (.agg vs)
  | tup {φ : Ph} (l : List AV) (vs : Array Value) (hl : l.length = vs.size) (h : ∀ (i : Nat) a v, l[i]? = some a → vs[i]? = some v → RV φ a v) : RV φ (.tup l) (.tuple vs)
  | fn {φ : Ph} (f : FuncId) (first caps : List AV) (vs ws : Array Value) (hl : first.length = vs.size) (h : ∀ (i : Nat) a v, first[i]? = some a → vs[i]? = some v → RV φ a v)
      (hk : caps.length = ws.size) (h' : ∀ (i : Nat) a v, caps[i]? = some a → ws[i]? = some v → RV φ a v) : RV φ (.fn f first caps) (.func (.func f) vs ws)
  | nilf {φ : Ph} : RV φ .nilf .nilFunc
  | lst {φ : Ph} (n : Nat) (cs : List AV) (r o c : Nat) (z : List Value) (h : φ.fz r = some z) (hc : n ≤ c ∧ c ≤ maxLen) (hl : o + cs.length ≤ z.length) (h1 : ∀ a ∈ cs, a.one = true)
      (hx : ∀ (i : Nat) a v, cs[i]? = some a → z[o + i]? = some v → RV φ.bare a v) : RV φ (.lst n cs) (.slice (some ⟨r, o, none⟩) n c)
  | lst0n {φ : Ph} : RV φ (.lst 0 []) (.slice none 0 0)
  | lst0e {φ : Ph} (a c) : RV φ (.lst 0 []) (.slice (some a) 0 c)
  | cptr {φ : Ph} (cs : List AV) (r o : Nat) (z : List Value) (h : φ.fz r = some z) (hl : o + cs.length ≤ z.length) (h1 : ∀ a ∈ cs, a.one = true)
      (hx : ∀ (i : Nat) a v, cs[i]? = some a → z[o + i]? = some v → RV φ.bare a v) : RV φ (.cptr cs) (.pointer (some ⟨r, o, none⟩))
  | nul {φ : Ph} (a) : RV φ .nul (.slice a 0 0)
  | mp {φ : Ph} (b L) (h : φ b = some L) : RV φ (.mp b) (.map (some L.r))
  | junk {φ : Ph} (v) : RV φ .junk v

theorem RV.mono {φ ψ : Ph} (hφ : φ.le ψ) {a : AV} {v : Value} (h : RV φ a v) : RV ψ a v := by
  induction h generalizing ψ with
  | int k n => exact .int k n
  | bool b => exact .bool b
  | str s => exact .str s
  | nilp => exact .nilp
  | ptr b o L h => exact .ptr b o L (hφ.loc _ _ h)
  | nils => exact .nils
  | emp a c => exact .emp a c
  | sl b o len cap L c h hc => exact .sl b o len cap L c (hφ.loc _ _ h) hc
  | agg l vs hl h ih => exact .agg l vs hl fun i a v ha hv => ih i a v ha hv hφ
  | tup l vs hl h ih => exact .tup l vs hl fun i a v ha hv => ih i a v ha hv hφ
  | fn f first caps vs ws hl h hk h' ih ih' => exact .fn f first caps vs ws hl (fun i a v ha hv => ih i a v ha hv hφ) hk fun i a v ha hv => ih' i a v ha hv hφ
  | nilf => exact .nilf
  | lst n cs r o c z h hc hl h1 hx ih => exact .lst n cs r o c z (hφ.fz _ _ h) hc hl h1 fun i a v ha hv => ih i a v ha hv hφ.bare
  | lst0n => exact .lst0n
  | lst0e a c => exact .lst0e a c
  | cptr cs r o z h hl h1 hx ih => exact .cptr cs r o z (hφ.fz _ _ h) hl h1 fun i a v ha hv => ih i a v ha hv hφ.bare
  | nul a => exact .nul a
  | mp b L h => exact .mp b L (hφ.loc _ _ h)
  | junk v => exact .junk v

/-- Lists of them. -/
def RVs (φ : Ph) (l : List AV) (vs : List Value) : Prop := l.length = vs.length ∧ ∀ (i : Nat) a v, l[i]? = some a → vs[i]? = some v → RV φ a v
theorem RVs.mono {φ ψ : Ph} (hφ : φ.le ψ) {l : List AV} {vs : List Value} (h : RVs φ l vs) : RVs ψ l vs :=
  ⟨h.1, fun i a v ha hv => (h.2 i a v ha hv).mono hφ⟩
theorem RVs.nil (φ : Ph) : RVs φ [] [] := ⟨rfl, fun i a v h => by simp at h⟩
theorem RVs.cons {φ : Ph} {a : AV} {v : Value} {l : List AV} {vs : List Value} (h : RV φ a v) (hs : RVs φ l vs) : RVs φ (a :: l) (v :: vs) := by
  refine ⟨by simp [hs.1], fun i b u hb hu => ?_⟩
  cases i with
  | zero => simp at hb hu; subst hb; subst hu; exact h
  | succ i => exact hs.2 i b u (by simpa using hb) (by simpa using hu)
theorem RVs.head {φ : Ph} {a : AV} {v : Value} {l : List AV} {vs : List Value} (h : RVs φ (a :: l) (v :: vs)) : RV φ a v := h.2 0 a v rfl rfl
theorem RVs.tail {φ : Ph} {a : AV} {v : Value} {l : List AV} {vs : List Value} (h : RVs φ (a :: l) (v :: vs)) : RVs φ l vs :=
  ⟨by simpa using h.1, fun i b u hb hu => h.2 (i + 1) b u (by simpa using hb) (by simpa using hu)⟩
theorem RVs.nil_left {φ : Ph} {vs : List Value} (h : RVs φ [] vs) : vs = [] := by
  exact List.eq_nil_of_length_eq_zero h.1.symm
theorem RVs.cons_left {φ : Ph} {a : AV} {l : List AV} {vs : List Value} (h : RVs φ (a :: l) vs) : ∃ v us, vs = v :: us ∧ RV φ a v ∧ RVs φ l us := by
  cases vs with
  | nil => have := h.1; simp at this
  | cons v us => exact ⟨v, us, rfl, h.head, h.tail⟩
theorem RVs.append {φ : Ph} {l m : List AV} {vs us : List Value} (h : RVs φ l vs) (k : RVs φ m us) : RVs φ (l ++ m) (vs ++ us) := by
  induction l generalizing vs with
  | nil => obtain rfl := h.nil_left; simpa using k
  | cons a l ih =>
    obtain ⟨v, us', rfl, h1, h2⟩ := h.cons_left
    exact RVs.cons h1 (ih h2)
theorem RVs.take {φ : Ph} {l : List AV} {vs : List Value} (h : RVs φ l vs) (n : Nat) : RVs φ (l.take n) (vs.take n) := by
  refine ⟨by simp [h.1], fun i a v ha hv => ?_⟩
  rw [List.getElem?_take] at ha hv
  split at ha
  · rename_i hi; rw [if_pos hi] at hv; exact h.2 i a v ha hv
  · cases ha
theorem RVs.drop {φ : Ph} {l : List AV} {vs : List Value} (h : RVs φ l vs) (n : Nat) : RVs φ (l.drop n) (vs.drop n) := by
  refine ⟨by simp [h.1], fun i a v ha hv => ?_⟩
  rw [List.getElem?_drop] at ha hv
  exact h.2 _ a v ha hv
theorem RVs.set {φ : Ph} {l : List AV} {vs : List Value} (h : RVs φ l vs) (n : Nat) {a : AV} {v : Value} (hv : RV φ a v) : RVs φ (l.set n a) (vs.set n v) := by
  refine ⟨by simp [h.1], fun i b u hb hu => ?_⟩
  rw [List.getElem?_set] at hb hu
  by_cases e : n = i
  · rw [if_pos e] at hb hu
    split at hb
    · rename_i h1
      rw [if_pos (by rw [← h.1]; exact h1)] at hu
      simp at hb hu; subst hb; subst hu; exact hv
    · cases hb
  · rw [if_neg e] at hb hu
    exact h.2 i b u hb hu
theorem RVs.getD {φ : Ph} {l : List AV} {vs : List Value} (h : RVs φ l vs) (n : Nat) {a : AV} (ha : l[n]? = some a) : ∃ v, vs[n]? = some v ∧ RV φ a v := by
  have hn : n < l.length := (List.getElem?_eq_some_iff.1 ha).1
  have hv : vs[n]? = some (vs[n]'(h.1 ▸ hn)) := List.getElem?_eq_getElem _
  exact ⟨_, hv, h.2 n a _ ha hv⟩
theorem RVs.replicate {φ : Ph} {a : AV} {v : Value} (h : RV φ a v) (n : Nat) : RVs φ (List.replicate n a) (List.replicate n v) := by
  induction n with
  | zero => exact RVs.nil φ
  | succ n ih => exact RVs.cons h ih
theorem RV.agg_iff {φ : Ph} {l : List AV} {v : Value} : RV φ (.agg l) v ↔ ∃ vs, v = .agg vs ∧ RVs φ l vs.toList := by
  constructor
  · intro h
    cases h with
    | agg l vs hl h => exact ⟨vs, rfl, by simpa using hl, fun i a v ha hv => h i a v ha (by simpa using hv)⟩
  · rintro ⟨vs, rfl, hl, h⟩
    exact .agg l vs (by simpa using hl) fun i a v ha hv => h i a v ha (by simpa using hv)
theorem RV.tup_iff {φ : Ph} {l : List AV} {v : Value} : RV φ (.tup l) v ↔ ∃ vs, v = .tuple vs ∧ RVs φ l vs.toList := by
  constructor
  · intro h
    cases h with
    | tup l vs hl h => exact ⟨vs, rfl, by simpa using hl, fun i a v ha hv => h i a v ha (by simpa using hv)⟩
  · rintro ⟨vs, rfl, hl, h⟩
    exact .tup l vs (by simpa using hl) fun i a v ha hv => h i a v ha (by simpa using hv)
theorem RV.undef (φ : Ph) : RV φ (.tup []) Go.undef := RV.tup_iff.2 ⟨#[], rfl, RVs.nil φ⟩

/-! ### The cells of a value -/
def AV.cells : AV → List AV
  | .agg l => l
  | v => [v]
/-- A value whose cells are known, each of them one. -/
def AV.solid : AV → Bool
  | .agg l => l.all AV.one
  | .tup _ | .junk => false
  | _ => true
theorem RV.one {φ : Ph} {a : AV} {v : Value} (h : RV φ a v) (ha : a.one = true) : v.oneCell' = true ∧ v.cells = #[v] := by
  cases h <;> first | (simp [AV.one] at ha; done) | exact ⟨rfl, rfl⟩
theorem RV.cells {φ : Ph} {a : AV} {v : Value} (h : RV φ a v) (ha : a.solid = true) : RVs φ a.cells v.cells.toList ∧ (∀ u ∈ v.cells.toList, u.oneCell' = true) := by
  cases a with
  | agg l =>
    obtain ⟨vs, rfl, hs⟩ := RV.agg_iff.1 h
    refine ⟨hs, fun u hu => ?_⟩
    obtain ⟨i, hi, rfl⟩ := List.getElem_of_mem hu
    have hi' : i < l.length := by rw [hs.1]; exact hi
    have h1 := hs.2 i l[i] _ (List.getElem?_eq_getElem hi') (List.getElem?_eq_getElem hi)
    simp only [AV.solid, List.all_eq_true] at ha
    exact (h1.one (ha _ (List.getElem_mem hi'))).1
  | tup l => simp [AV.solid] at ha
  | junk => simp [AV.solid] at ha
  | _ =>
    have h1 := h.one rfl
    rw [h1.2]
    exact ⟨RVs.cons h (RVs.nil φ), by simpa using h1.1⟩

/-! ### Blocks -/
inductive St where
  | dead | ro | opn | full | mp

structure Blk where
  cells : List AV
  esz : Nat
  st : St

abbrev Heap := List Blk

def St.alive : St → Bool
  | .dead | .mp => false
  | _ => true
def St.own : St → Bool
  | .opn | .full => true
  | _ => false

/-- A place that nobody writes any more. -/
def RoOk (base : Nat) (φ : Ph) (L : Loc) (esz : Nat) : Prop := (L.own = false ∧ L.r < base) ∨ (L.esz = esz ∧ ∃ z, φ.fz L.r = some z)
theorem RoOk.mono {base : Nat} {φ ψ : Ph} (hφ : φ.le ψ) {L : Loc} {esz : Nat} (h : RoOk base φ L esz) : RoOk base ψ L esz := h.imp id fun ⟨he, z, hz⟩ => ⟨he, z, hφ.fz _ _ hz⟩
/-- The entries of a map of texts to true. -/
def MapOk (es : Array MapEntry) (cs : List AV) : Prop := es.size = cs.length ∧ ∀ (i : Nat) a, cs[i]? = some a → ∃ s born, a = .str s ∧ es[i]? = some (⟨.string ⟨s.toArray⟩, .bool true, born⟩ : MapEntry)
def BlkRel (base : Nat) (φ : Ph) (B : Blk) (L : Loc) (w : World) : Prop :=
  match B.st with
  | .dead => True
  | .mp => base ≤ L.r ∧ ∃ es clk, w.heap[L.r]? = some (.map es clk) ∧ MapOk es B.cells
  | .ro => RoOk base φ L B.esz ∧ True ∧ ∀ (i : Nat) a, B.cells[i]? = some a → a.one = true ∧ ∃ v, w.cell? ⟨L.r, L.o + i, none⟩ = some v ∧ RV φ a v
  | .opn => L.own = true ∧ base ≤ L.r ∧ L.esz = B.esz ∧ ∃ c e fz, w.heap[L.r]? = some (.cells c e fz) ∧ c.size = L.o + L.size ∧ B.cells.length ≤ L.size ∧
      (∀ i, i < c.size → ¬ (fz.1 ≤ i ∧ i < fz.2)) ∧ ∀ (i : Nat) a, B.cells[i]? = some a → a.one = true ∧ ∃ v, c[L.o + i]? = some v ∧ RV φ a v
  | .full => L.own = true ∧ base ≤ L.r ∧ L.esz = B.esz ∧ ∃ c e fz, w.heap[L.r]? = some (.cells c e fz) ∧ c.size = L.o + L.size ∧ B.cells.length = L.size ∧
      (∀ i, i ≤ c.size → ¬ (fz.1 ≤ i ∧ i < fz.2)) ∧ ∀ (i : Nat) a, B.cells[i]? = some a → a.one = true ∧ ∃ v, c[L.o + i]? = some v ∧ RV φ a v

/-- The abstract heap tells of the world. -/
structure Rel (base : Nat) (φ : Ph) (H : Heap) (w : World) : Prop where
  blk : ∀ b B L, H[b]? = some B → φ b = some L → BlkRel base φ B L w
  inj : ∀ b c B C L M, H[b]? = some B → H[c]? = some C → B.st.own = true → C.st.own = true → φ b = some L → φ c = some M → L.r = M.r → b = c
  dom : ∀ b L, φ b = some L → b < H.length
  size : base ≤ w.heap.size
  fzOk : ∀ r z, φ.fz r = some z → r < w.heap.size ∧ ∀ (i : Nat) u, z[i]? = some u → w.cell? ⟨r, i, none⟩ = some u
  fzSep : ∀ r z b B L, φ.fz r = some z → H[b]? = some B → B.st.own = true → φ b = some L → L.r ≠ r

/-- What a run leaves: old blocks keep their places, nothing of old memory has turned. -/
structure Ext (base : Nat) (φ : Ph) (H : Heap) (w : World) (φ' : Ph) (H' : Heap) (w' : World) : Prop where
  keep : ∀ b, b < H.length → φ' b = φ b
  len : H.length ≤ H'.length
  below : Below base w w'
  fz : ∀ r z, φ.fz r = some z → φ'.fz r = some z
  fzn : ∀ r z, φ'.fz r = some z → φ.fz r = some z ∨ base ≤ r

theorem Ext.refl (base : Nat) (φ : Ph) (H : Heap) (w : World) : Ext base φ H w φ H w := ⟨fun _ _ => rfl, Nat.le_refl _, Below.refl _ _, fun _ _ h => h, fun _ _ h => .inl h⟩
theorem Ext.trans {base : Nat} {φ ψ χ : Ph} {H I J : Heap} {u v w : World} (h : Ext base φ H u ψ I v) (k : Ext base ψ I v χ J w) : Ext base φ H u χ J w :=
  ⟨fun b hb => (k.keep b (Nat.lt_of_lt_of_le hb h.len)).trans (h.keep b hb), Nat.le_trans h.len k.len, h.below.trans k.below, fun r z hz => k.fz r z (h.fz r z hz), fun r z hz => (k.fzn r z hz).elim (h.fzn r z) .inr⟩
theorem Ext.sub {base : Nat} {φ ψ : Ph} {H I : Heap} {u v w : World} (h : Ext base φ H u ψ I v) (hr : Rel base φ H w) : φ.le ψ :=
  ⟨fun b L hb => (h.keep b (hr.dom b L hb)).trans hb, h.fz⟩

end Go.Proofs.PI

