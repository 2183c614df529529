import Derived.Test.YtkmkhiipiflelaaPiA
/-! PI, part B: types as tables; the operations that touch no memory. -/
set_option linter.unusedVariables false
set_option linter.unusedSimpArgs false
namespace Go.Proofs.PI

/-! ### Types -/
inductive TK where
  | bool | int (k : IntKind) | str | ptr (e : TypeId) | slice (e : TypeId) | struct (fs : List (Nat × TypeId)) | func | other

structure TD where
  k : TK
  size : Nat
  bytes : Nat
  zero : List AV
  /-- May structs of it be compared, cell by cell? -/
  eq : Bool

/-- A constant of one cell. -/
def cav1 : Value → AV
  | .int k n => .int k n
  | .bool b => .bool b
  | .string s => .str s.data.toList
  | .pointer none => .nilp
  | .slice none 0 0 => .nils
  | .nilFunc => .nilf
  | _ => .junk
/-- A constant. -/
def cav : Value → AV
  | .agg cs => .agg (cs.toList.map cav1)
  | v => cav1 v

theorem cav1_rv (φ : Ph) (v : Value) : RV φ (cav1 v) v := by
  unfold cav1
  split
  · exact .int _ _
  · exact .bool _
  · rename_i s
    have := RV.str (φ := φ) s.data.toList
    simpa using this
  · exact .nilp
  · exact .nils
  · exact .nilf
  · exact .junk _
theorem RVs.cav1s (φ : Ph) (vs : List Value) : RVs φ (vs.map cav1) vs := by
  induction vs with
  | nil => exact RVs.nil φ
  | cons v vs ih => exact RVs.cons (cav1_rv φ v) ih
theorem cav_rv (φ : Ph) (v : Value) : RV φ (cav v) v := by
  unfold cav
  split
  · exact RV.agg_iff.2 ⟨_, rfl, RVs.cav1s φ _⟩
  · exact cav1_rv φ _

def tkOf : TypeDesc → TK
  | .bool => .bool
  | .int k => .int k
  | .string => .str
  | .pointer e => .ptr e
  | .slice e => .slice e
  | .struct fs => .struct (fs.toList.map fun f => (f.offset, f.type))
  | .func .. => .func
  | _ => .other

def eqOf (P : Program) (t : TypeId) : TypeDesc → Bool
  | .struct fs => fs.toList.all (fun f => f.name != "_") && !P.stoodInHeld t && !P.eqGuardType P.depth t
  | _ => false
def tdOf (P : Program) (t : TypeId) : Option TD :=
  match P.info? t, P.underlying t with
  | some i, some u => match i.zero with
    | some z => some ⟨tkOf u, i.size, i.bytes, z.cells.toList.map cav1, eqOf P t u⟩
    | none => none
  | _, _ => none

structure TD.Is (P : Program) (t : TypeId) (d : TD) (i : TypeInfo) (u : TypeDesc) (z : Value) : Prop where
  info : P.info? t = some i
  und : P.underlying t = some u
  zero : i.zero = some z
  k : tkOf u = d.k
  size : i.size = d.size
  bytes : i.bytes = d.bytes
  zeros : z.cells.toList.map cav1 = d.zero
  eqs : eqOf P t u = d.eq
theorem tdOf_is {P : Program} {t : TypeId} {d : TD} (h : tdOf P t = some d) : ∃ i u z, TD.Is P t d i u z := by
  unfold tdOf at h
  split at h
  · rename_i i u hi hu
    split at h
    · rename_i z hz
      simp only [Option.some.injEq] at h
      subst h
      exact ⟨i, u, z, hi, hu, hz, rfl, rfl, rfl, rfl, rfl⟩
    · cases h
  · cases h
theorem tkOf_bool {u : TypeDesc} (h : tkOf u = .bool) : u = .bool := by cases u <;> simp [tkOf] at h ⊢
theorem tkOf_int {u : TypeDesc} {k : IntKind} (h : tkOf u = .int k) : u = .int k := by cases u <;> simp [tkOf] at h ⊢; exact h
theorem tkOf_str {u : TypeDesc} (h : tkOf u = .str) : u = .string := by cases u <;> simp [tkOf] at h ⊢
theorem tkOf_ptr {u : TypeDesc} {e : TypeId} (h : tkOf u = .ptr e) : u = .pointer e := by cases u <;> simp [tkOf] at h ⊢; exact h
theorem tkOf_slice {u : TypeDesc} {e : TypeId} (h : tkOf u = .slice e) : u = .slice e := by cases u <;> simp [tkOf] at h ⊢; exact h
theorem tkOf_struct {u : TypeDesc} {fs : List (Nat × TypeId)} (h : tkOf u = .struct fs) : ∃ gs, u = .struct gs ∧ gs.toList.map (fun f => (f.offset, f.type)) = fs := by
  cases u <;> simp [tkOf] at h ⊢; exact h
theorem tkOf_func {u : TypeDesc} (h : tkOf u = .func) : ∃ a b c, u = .func a b c := by cases u <;> simp [tkOf] at h ⊢

/-- What the type's sort gives for the model's questions. -/
def TK.isAgg : TK → Option Bool
  | .struct _ => some true
  | .other => none
  | _ => some false
theorem run_isAgg_of {P : Program} {t : TypeId} {d : TD} {i : TypeInfo} {u : TypeDesc} {z : Value} (h : TD.Is P t d i u z) {b : Bool} (hb : d.k.isAgg = some b) (w : World) : (isAgg t).run P w = .ok b w := by
  have hu := h.und
  have hk := h.k
  cases hd : d.k <;> rw [hd] at hb hk <;> simp [TK.isAgg] at hb <;> subst hb
  · obtain rfl := tkOf_bool hk; simp [isAgg, run_underlying hu]
  · obtain rfl := tkOf_int hk; simp [isAgg, run_underlying hu]
  · obtain rfl := tkOf_str hk; simp [isAgg, run_underlying hu]
  · obtain rfl := tkOf_ptr hk; simp [isAgg, run_underlying hu]
  · obtain rfl := tkOf_slice hk; simp [isAgg, run_underlying hu]
  · obtain ⟨gs, rfl, _⟩ := tkOf_struct hk; simp [isAgg, run_underlying hu]
  · obtain ⟨a, b, c, rfl⟩ := tkOf_func hk; simp [isAgg, run_underlying hu]
theorem run_sizeOf_of {P : Program} {t : TypeId} {d : TD} {i : TypeInfo} {u : TypeDesc} {z : Value} (h : TD.Is P t d i u z) (w : World) : (sizeOf t).run P w = .ok d.size w := by
  simp [sizeOf, typeInfo, h.info, h.size]
theorem run_zeroValue_of {P : Program} {t : TypeId} {d : TD} {i : TypeInfo} {u : TypeDesc} {z : Value} (h : TD.Is P t d i u z) (w : World) : (zeroValue t).run P w = .ok z w := by
  simp [zeroValue, typeInfo, h.info, h.zero]

/-! ### Frames -/
def Fr := Nat → AV
def Fr.get (fr : Fr) (t : Nat) : AV := fr t
def Fr.put (fr : Fr) (d : Option Tmp) (v : AV) : Fr := match d with
  | some d => fun t => if t = d then v else fr t
  | none => fr
def Fr.init (l : List AV) : Fr := fun t => l.getD t (.tup [])
theorem Fr.get_put (fr : Fr) (d t : Nat) (v : AV) : (fr.put (some d) v).get t = if t = d then v else fr.get t := rfl
theorem Fr.put_none (fr : Fr) (v : AV) : fr.put none v = fr := rfl
theorem Fr.get_init (l : List AV) (t : Nat) : (Fr.init l).get t = l.getD t (.tup []) := rfl

def Fr.ev (fr : Fr) : Operand → AV
  | .tmp t => fr.get t
  | .const v => cav v
  | .func f => .fn f [] []
  | .global _ => .junk

structure FRel (φ : Ph) (n : Nat) (fr : Fr) (a : Act) : Prop where
  size : a.tmps.size = n
  defers : a.defers = []
  tmp : ∀ (t : Nat) v, a.tmps[t]? = some v → RV φ (fr.get t) v
  over : ∀ (t : Nat), n ≤ t → RV φ (fr.get t) undef
theorem FRel.mono {φ ψ : Ph} (hφ : φ.le ψ) {n : Nat} {fr : Fr} {a : Act} (h : FRel φ n fr a) : FRel ψ n fr a :=
  ⟨h.size, h.defers, fun t v hv => (h.tmp t v hv).mono hφ, fun t ht => (h.over t ht).mono hφ⟩
theorem FRel.ev {φ : Ph} {n : Nat} {fr : Fr} {a : Act} (h : FRel φ n fr a) (x : Operand) : RV φ (fr.ev x) (a.eval x) := by
  cases x with
  | tmp t =>
    simp only [Fr.ev, Act.eval]
    by_cases ht : t < a.tmps.size
    · have he : a.tmps[t]? = some a.tmps[t] := Array.getElem?_eq_getElem ht
      have := h.tmp t _ he
      simpa [Array.getD_eq_getD_getElem?, he] using this
    · have he : a.tmps[t]? = none := Array.getElem?_eq_none (Nat.not_lt.1 ht)
      have := h.over t (by rw [← h.size]; exact Nat.not_lt.1 ht)
      simpa [Array.getD_eq_getD_getElem?, he] using this
  | const v => exact cav_rv φ v
  | global g => exact .junk _
  | func f => exact .fn f [] [] #[] #[] rfl (fun i a v h => by simp at h) rfl (fun i a v h => by simp at h)
theorem FRel.put {φ : Ph} {n : Nat} {fr : Fr} {a : Act} (h : FRel φ n fr a) {d : Option Tmp} (hd : ∀ t, d = some t → t < n) {v : AV} {u : Value} (hv : RV φ v u) : FRel φ n (fr.put d v) (a.put d u) := by
  cases d with
  | none => exact h
  | some d =>
    have hlt := hd d rfl
    refine ⟨by simp [Act.put, h.size], h.defers, fun t x hx => ?_, fun t ht => ?_⟩
    · rw [Fr.get_put]
      simp only [Act.put] at hx
      rw [Array.getElem?_setIfInBounds] at hx
      by_cases e : d = t
      · subst e
        rw [if_pos rfl] at hx
        rw [if_pos (by rw [h.size]; exact hlt)] at hx
        simp at hx; subst hx
        simpa using hv
      · rw [if_neg e] at hx
        rw [if_neg (fun h => e h.symm)]
        exact h.tmp t x hx
    · rw [Fr.get_put, if_neg (Nat.ne_of_gt (Nat.lt_of_lt_of_le hlt ht))]
      exact h.over t ht
theorem FRel.init {φ : Ph} {n : Nat} {l : List AV} {vs : List Value} (h : RVs φ l vs) (hn : l.length ≤ n) :
    FRel φ n (Fr.init l) { tmps := vs.toArray ++ Array.replicate (n - vs.toArray.size) undef, defers := [] } := by
  have hl := h.1
  refine ⟨by simp; omega, rfl, fun t v hv => ?_, fun t ht => ?_⟩
  · rw [Fr.get_init]
    rw [Array.getElem?_append] at hv
    split at hv
    · rename_i ht
      have ht' : t < l.length := by simp at ht; omega
      have he : l[t]? = some l[t] := List.getElem?_eq_getElem ht'
      simp only [List.getD_eq_getElem?_getD, he, Option.getD_some]
      exact h.2 t _ v he (by simpa using hv)
    · rename_i ht
      have ht' : ¬ t < l.length := by simp at ht; omega
      simp only [List.getD_eq_getElem?_getD, List.getElem?_eq_none (by omega : l.length ≤ t), Option.getD_none]
      rw [Array.getElem?_replicate] at hv
      split at hv
      · simp at hv; subst hv; exact RV.undef φ
      · cases hv
  · rw [Fr.get_init]
    simp only [List.getD_eq_getElem?_getD, List.getElem?_eq_none (by omega : l.length ≤ t), Option.getD_none]
    exact RV.undef φ

end Go.Proofs.PI

