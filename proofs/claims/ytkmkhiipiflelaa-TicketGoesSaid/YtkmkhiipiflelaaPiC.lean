import Derived.Test.YtkmkhiipiflelaaPiB
import Derived.Laws.StructEq
/-! PI, part C: the operations that touch no memory, and that the machine does what they say. -/
set_option linter.unusedVariables false
set_option linter.unusedSimpArgs false
namespace Go.Proofs.PI

def TOk (P : Program) (T : TypeId → Option TD) : Prop := ∀ t d, T t = some d → tdOf P t = some d

/-! ### Two operands -/
def aint (op : BinOp) (k : IntKind) (a : Int) (k' : IntKind) (b : Int) : Option AV :=
  match op with
  | .shl => if b < 0 then none else some (.int k (k.wrap (a * 2 ^ min b.toNat k.bits)))
  | .shr => if b < 0 then none else some (.int k (a.fdiv (2 ^ min b.toNat k.bits)))
  | .add => if k = k' then some (.int k (k.wrap (a + b))) else none
  | .sub => if k = k' then some (.int k (k.wrap (a - b))) else none
  | .mul => if k = k' then some (.int k (k.wrap (a * b))) else none
  | .quo => if k = k' ∧ b ≠ 0 then some (.int k (k.wrap (a.tdiv b))) else none
  | .rem => if k = k' ∧ b ≠ 0 then some (.int k (a.tmod b)) else none
  | .and => if k = k' then some (.int k (k.wrap (BitVec.ofInt k.bits a &&& BitVec.ofInt k.bits b).toNat)) else none
  | .or => if k = k' then some (.int k (k.wrap (BitVec.ofInt k.bits a ||| BitVec.ofInt k.bits b).toNat)) else none
  | .xor => if k = k' then some (.int k (k.wrap (BitVec.ofInt k.bits a ^^^ BitVec.ofInt k.bits b).toNat)) else none
  | .andNot => if k = k' then some (.int k (k.wrap (BitVec.ofInt k.bits a &&& ~~~ BitVec.ofInt k.bits b).toNat)) else none
  | .eql => if k = k' then some (.bool (decide (a = b))) else none
  | .neq => if k = k' then some (.bool (!decide (a = b))) else none
  | .lss => if k = k' then some (.bool (decide (a < b))) else none
  | .leq => if k = k' then some (.bool (decide (a ≤ b))) else none
  | .gtr => if k = k' then some (.bool (decide (b < a))) else none
  | .geq => if k = k' then some (.bool (decide (b ≤ a))) else none

def astr (op : BinOp) (a b : List UInt8) : Option AV :=
  match op with
  | .add => if a.length + b.length ≤ 9223372036854775807 then some (.str (a ++ b)) else none
  | .eql => some (.bool (decide (a = b)))
  | .neq => some (.bool (!decide (a = b)))
  | .lss => some (.bool (Op.bytesLess a b))
  | .geq => some (.bool (!Op.bytesLess a b))
  | _ => none

def AV.sliceNil : AV → Option Bool
  | .nils => some true
  | .sl .. => some false
  | .emp => some false
  | .lst n _ => if 0 < n then some false else none
  | _ => none
def AV.ptrNil : AV → Option Bool
  | .nilp => some true
  | .ptr .. => some false
  | .cptr .. => some false
  | _ => none
def aeq (op : BinOp) (b : Bool) : Option AV := match op with
  | .eql => some (.bool b)
  | .neq => some (.bool (!b))
  | _ => none

def tk (T : TypeId → Option TD) (t : TypeId) : TK := match T t with
  | some d => d.k
  | none => .other

/-- A part of a struct's cells. -/
def apart (T : TypeId → Option TD) (t : TypeId) (l : List AV) (off : Nat) : Option AV :=
  match T t with
  | some d => match d.k.isAgg with
    | some true => some (.agg ((l.drop off).take d.size))
    | some false => l[off]?
    | none => none
  | none => none
def aeqFs (R : TypeId → AV → AV → Option Bool) (T : TypeId → Option TD) (xs ys : List AV) : List (Nat × TypeId) → Option Bool
  | [] => some true
  | (off, t) :: fs => match apart T t xs off, apart T t ys off with
    | some a, some b => match R t a b, aeqFs R T xs ys fs with
      | some p, some q => some (p && q)
      | _, _ => none
    | _, _ => none
/-- Are two values of a type equal? -/
def aeqIn (T : TypeId → Option TD) : Nat → TypeId → AV → AV → Option Bool
  | 0, _, _, _ => none
  | n + 1, t, x, y => match T t with
    | some d => match d.k, x, y with
      | .bool, .bool a, .bool b => some (decide (a = b))
      | .int _, .int k a, .int k' b => if k = k' then some (decide (a = b)) else none
      | .str, .str a, .str b => some (decide (a = b))
      | .struct fs, .agg xs, .agg ys => if d.eq = true then aeqFs (aeqIn T n) T xs ys fs else none
      | _, _, _ => none
    | none => none
def abin (T : TypeId → Option TD) (op : BinOp) (t : TypeId) (x y : AV) : Option AV :=
  match x, y with
  | .int k a, .int k' b => aint op k a k' b
  | .str a, .str b => astr op a b
  | .bool a, .bool b => match tk T t with
    | .bool => aeq op (decide (a = b))
    | _ => none
  | .agg xs, .agg ys => (aeqIn T 4 t (.agg xs) (.agg ys)).bind (aeq op)
  | x, .nils => match tk T t with
    | .slice _ => x.sliceNil.bind (aeq op)
    | _ => none
  | x, .nilp => match tk T t with
    | .ptr _ => x.ptrNil.bind (aeq op)
    | _ => none
  | _, _ => none

section
variable {P : Program} {T : TypeId → Option TD} {φ : Ph}

theorem eqGuard_plain (op : BinOp) (t : TypeId) (x y : Operand) (a b : Value) (w : World) (ha : a ≠ .nilIface) (hb : ∀ cs, a ≠ .agg cs) :
    (eqGuard op t x y a b).run P w = .ok () w := by
  unfold eqGuard
  cases op <;> simp <;> (cases a <;> simp_all)

theorem aint_run (op : BinOp) (t : TypeId) (k k' : IntKind) (a b : Int) (v : AV) (h : aint op k a k' b = some v) :
    ∃ u, RV φ v u ∧ ∀ w, (binOp op t (.int k a) (.int k' b)).run P w = .ok u w := by
  cases op <;> simp only [aint] at h <;> split at h <;> (try (cases h; done)) <;> rename_i hb <;> simp only [Option.some.injEq] at h <;> subst h
  case shl => exact ⟨_, .int _ _, fun w => by simp [binOp, Op.shift, hb]⟩
  case shr => exact ⟨_, .int _ _, fun w => by simp [binOp, Op.shift, hb]⟩
  case quo => exact ⟨_, .int _ _, fun w => by simp [binOp, Op.intDiv, hb.1, hb.2]⟩
  case rem => exact ⟨_, .int _ _, fun w => by simp [binOp, Op.intDiv, hb.1, hb.2]⟩
  all_goals subst hb
  case add => exact ⟨_, .int _ _, fun w => by simp [binOp, Op.intArith]⟩
  case sub => exact ⟨_, .int _ _, fun w => by simp [binOp, Op.intArith]⟩
  case mul => exact ⟨_, .int _ _, fun w => by simp [binOp, Op.intArith]⟩
  case and => exact ⟨_, .int _ _, fun w => by simp [binOp, Op.intBits]⟩
  case or => exact ⟨_, .int _ _, fun w => by simp [binOp, Op.intBits]⟩
  case xor => exact ⟨_, .int _ _, fun w => by simp [binOp, Op.intBits]⟩
  case andNot => exact ⟨_, .int _ _, fun w => by simp [binOp, Op.intBits]⟩
  case eql => exact ⟨_, .bool _, fun w => by simp [binOp, Op.intCmp, Bool.beq_eq_decide_eq]⟩
  case neq => exact ⟨_, .bool _, fun w => by simp [binOp, Op.intCmp, bne, Bool.beq_eq_decide_eq]⟩
  case lss => exact ⟨_, .bool _, fun w => by simp [binOp, Op.intCmp]⟩
  case leq => exact ⟨_, .bool _, fun w => by simp [binOp, Op.intCmp]⟩
  case gtr => exact ⟨_, .bool _, fun w => by simp [binOp, Op.intCmp]⟩
  case geq => exact ⟨_, .bool _, fun w => by simp [binOp, Op.intCmp]⟩

theorem mk_toList (l : List UInt8) : (ByteArray.mk l.toArray).toList = l := by rw [ByteArray.toList_eq]
theorem mk_append (a b : List UInt8) : (ByteArray.mk a.toArray) ++ (ByteArray.mk b.toArray) = ByteArray.mk (a ++ b).toArray := by
  apply ByteArray.ext
  simp [ByteArray.data_append]
theorem mk_size (l : List UInt8) : (ByteArray.mk l.toArray).size = l.length := by simp [ByteArray.size]

theorem astr_run (op : BinOp) (t : TypeId) (a b : List UInt8) (v : AV) (h : astr op a b = some v) :
    ∃ u, RV φ v u ∧ ∀ w, (binOp op t (.string ⟨a.toArray⟩) (.string ⟨b.toArray⟩)).run P w = .ok u w := by
  cases op <;> simp only [astr, reduceCtorEq, Option.some.injEq] at h
  case add =>
    split at h <;> first | (cases h; done) | skip
    rename_i hb
    simp only [Option.some.injEq] at h; subst h
    refine ⟨_, .str _, fun w => ?_⟩
    have hb' : ¬ (((a.length + b.length : Nat) : Int) > IntKind.i64.max) := by
      have : IntKind.i64.max = 9223372036854775807 := rfl
      omega
    simp only [binOp, Op.stringOp, mk_size, if_neg hb', mk_append]
    rfl
  all_goals subst h; refine ⟨_, .bool _, fun w => ?_⟩
  all_goals simp [binOp, Op.stringOp, mk_toList]
  all_goals (rw [Bool.eq_iff_iff]; simp)

theorem tk_is {P : Program} {T : TypeId → Option TD} (hT : TOk P T) {t : TypeId} {k : TK} (h : tk T t = k) (hk : k ≠ .other) : ∃ d i u z, T t = some d ∧ d.k = k ∧ TD.Is P t d i u z := by
  unfold tk at h
  split at h
  · rename_i d hd
    obtain ⟨i, u, z, hi⟩ := tdOf_is (hT t d hd)
    exact ⟨d, i, u, z, hd, h, hi⟩
  · exact absurd h.symm hk
theorem equal_eq (t : TypeId) (x y : Value) : Op.equal t x y = Op.equalIn (9999 + 1) t x y := rfl
theorem eqIn_bool {t : TypeId} (ht : P.underlying t = some .bool) (d : Nat) (a b : Bool) (w : World) : (Op.equalIn (d + 1) t (.bool a) (.bool b)).run P w = .ok (decide (a = b)) w := by
  simp [Op.equalIn, run_underlying ht]
  cases a <;> cases b <;> rfl
theorem eqIn_slice_nil {t e : TypeId} (ht : P.underlying t = some (.slice e)) (d : Nat) (n m : Nat) (a : Option Addr) (w : World) : (Op.equalIn (d + 1) t (.slice a n m) (.slice none 0 0)).run P w = .ok a.isNone w := by
  cases a <;> simp [Op.equalIn, run_underlying ht]
theorem eqIn_ptr_nil {t e : TypeId} (ht : P.underlying t = some (.pointer e)) (d : Nat) (a : Option Addr) (w : World) : (Op.equalIn (d + 1) t (.pointer a) (.pointer none)).run P w = .ok a.isNone w := by
  cases a <;> simp [Op.equalIn, run_underlying ht]

theorem aeq_run {op : BinOp} {t : TypeId} {b : Bool} {v : AV} (h : aeq op b = some v) {x y : Value} (hx : ∀ k n, x ≠ .int k n) (hf : ∀ k n, x ≠ .float k n) (hc : ∀ k a b, x ≠ .complex k a b) (hs : ∀ s, x ≠ .string s)
    (he : ∀ w, (Op.equal t x y).run P w = .ok b w) : ∃ u, RV φ v u ∧ ∀ w, (binOp op t x y).run P w = .ok u w := by
  cases op <;> simp only [aeq, reduceCtorEq, Option.some.injEq] at h
  case eql =>
    subst h
    refine ⟨_, .bool _, fun w => ?_⟩
    have : binOp .eql t x y = (do pure (.bool (← Op.equal t x y))) := by
      cases x <;> first | rfl | (exact absurd rfl (hx _ _)) | (exact absurd rfl (hf _ _)) | (exact absurd rfl (hc _ _ _)) | (exact absurd rfl (hs _))
    rw [this]; simp [he w]
  case neq =>
    subst h
    refine ⟨_, .bool _, fun w => ?_⟩
    have : binOp .neq t x y = (do pure (.bool (!(← Op.equal t x y)))) := by
      cases x <;> first | rfl | (exact absurd rfl (hx _ _)) | (exact absurd rfl (hf _ _)) | (exact absurd rfl (hc _ _ _)) | (exact absurd rfl (hs _))
    rw [this]; simp [he w]

theorem apart_run (hT : TOk P T) {t : TypeId} {l : List AV} {off : Nat} {v : AV} (h : apart T t l off = some v) {vs : Array Value} (hl : RVs φ l vs.toList) :
    ∃ u, RV φ v u ∧ ∀ w, (part t vs off).run P w = .ok u w := by
  unfold apart at h
  split at h
  · rename_i d hd
    obtain ⟨i, u, z, hi⟩ := tdOf_is (hT t d hd)
    split at h
    · rename_i ha
      simp only [Option.some.injEq] at h; subst h
      refine ⟨.agg (vs.extract off (off + d.size)), RV.agg_iff.2 ⟨_, rfl, ?_⟩, fun w => ?_⟩
      · have := (hl.drop off).take d.size
        simpa [Array.toList_extract, List.extract_eq_take_drop] using this
      · simp [part, run_isAgg_of hi ha, run_sizeOf_of hi]
    · rename_i ha
      obtain ⟨u, hu, hr⟩ := hl.getD off h
      refine ⟨u, hr, fun w => ?_⟩
      have : vs[off]? = some u := by simpa using hu
      simp [part, run_isAgg_of hi ha, this]
    · cases h
  · cases h


theorem aeqFs_run (hT : TOk P T) {d : Nat} {R : TypeId → AV → AV → Option Bool} (hR : ∀ t x y b, R t x y = some b → ∀ x' y', RV φ x x' → RV φ y y' → ∀ w, (Op.equalIn d t x' y').run P w = .ok b w) {xs ys : List AV} {xs' ys' : Array Value} (hx : RVs φ xs xs'.toList) (hy : RVs φ ys ys'.toList) :
    ∀ (gs : List Field), gs.all (fun f => f.name != "_") = true → ∀ b, aeqFs R T xs ys (gs.map fun f => (f.offset, f.type)) = some b → ∀ w, (Op.eqFields d xs' ys' gs).run P w = .ok b w
  | [], _, b, h, w => by simp only [List.map_nil, aeqFs, Option.some.injEq] at h; subst h; simp [Op.eqFields]
  | f :: gs, hn, b, h, w => by
    simp only [List.all_cons, Bool.and_eq_true, bne_iff_ne] at hn
    simp only [List.map_cons, aeqFs] at h
    split at h
    · rename_i a c ha hc
      split at h
      · rename_i p q hp hq
        simp only [Option.some.injEq] at h; subst h
        obtain ⟨u, hu, hu'⟩ := apart_run hT ha hx
        obtain ⟨v, hv, hv'⟩ := apart_run hT hc hy
        have h1 := hR _ _ _ _ hp _ _ hu hv w
        have ih := aeqFs_run hT hR hx hy gs hn.2 q hq w
        simp only [Op.eqFields, hn.1, ne_eq, not_false_eq_true, if_true, Sem.run_bind, hu', hv', h1, Result.andThen_ok]
        cases p
        · simp
        · simp [ih]
      · cases h
    · cases h
theorem aeqIn_run (hT : TOk P T) (D : Nat) : ∀ (n : Nat) (t : TypeId) (x y : AV) (b : Bool), aeqIn T n t x y = some b → ∀ x' y', RV φ x x' → RV φ y y' → ∀ w, (Op.equalIn (D + n) t x' y').run P w = .ok b w
  | 0, t, x, y, b, h => by cases h
  | n + 1, t, x, y, b, h => by
    intro x' y' hx hy w
    unfold aeqIn at h
    split at h
    · rename_i d hd
      obtain ⟨i, u, z, hi⟩ := tdOf_is (hT t d hd)
      split at h
      · rename_i hk
        simp only [Option.some.injEq] at h; subst h
        cases hx; cases hy
        exact eqIn_bool (by rw [hi.und, tkOf_bool (hi.k.trans hk)]) (D + n) _ _ w
      · rename_i k0 k a k' c hk
        split at h
        · rename_i hkk
          simp only [Option.some.injEq] at h; subst h; subst hkk
          cases hx; cases hy
          have hu : P.underlying t = some (.int k0) := by rw [hi.und, tkOf_int (hi.k.trans hk)]
          show (Op.equalIn ((D + n) + 1) t _ _).run P w = _
          rw [run_equalIn_int w (D + n) t _ _ _ _ hu, Bool.beq_eq_decide_eq]
        · cases h
      · rename_i hk
        simp only [Option.some.injEq] at h; subst h
        cases hx; cases hy
        have hu : P.underlying t = some .string := by rw [hi.und, tkOf_str (hi.k.trans hk)]
        show (Op.equalIn ((D + n) + 1) t _ _).run P w = _
        rw [run_equalIn_string w (D + n) t _ _ hu, mk_toList, mk_toList, Bool.beq_eq_decide_eq]
      · rename_i fs xs ys hk
        split at h
        · rename_i heq
          obtain ⟨gs, rfl, hg⟩ := tkOf_struct (hi.k.trans hk)
          obtain ⟨xs', rfl, hxs⟩ := RV.agg_iff.1 hx
          obtain ⟨ys', rfl, hys⟩ := RV.agg_iff.1 hy
          have he := hi.eqs
          rw [heq] at he
          simp only [eqOf, Bool.and_eq_true, Bool.not_eq_true'] at he
          have hfs : P.fieldsOf t = gs := by simp [Program.fieldsOf, hi.und]
          show (Op.equalIn ((D + n) + 1) t _ _).run P w = _
          rw [run_equalIn_struct w (D + n) t xs' ys' (by rw [hfs]; exact hi.und) he.1.2, hfs]
          subst hg
          exact aeqFs_run hT (fun t x y b hb x' y' hx hy w => aeqIn_run hT D n t x y b hb x' y' hx hy w) hxs hys gs.toList he.1.1 b h w
        · cases h
      · cases h
    · cases h
theorem eqGuard_agg {t : TypeId} (h : P.eqGuardType P.depth t = false) (op : BinOp) (x y : Operand) (a b : Array Value) (w : World) : (eqGuard op t x y (.agg a) (.agg b)).run P w = .ok () w := by
  unfold eqGuard
  cases op <;> simp [h]

theorem abin_run (hT : TOk P T) (op : BinOp) (t : TypeId) (x y : AV) (v : AV) (h : abin T op t x y = some v) {x' y' : Value} (hx : RV φ x x') (hy : RV φ y y') (ox oy : Operand) :
    ∃ u, RV φ v u ∧ ∀ w, (do eqGuard op t ox oy x' y'; binOp op t x' y' : Sem Value).run P w = .ok u w := by
  have key : (∀ w, (eqGuard op t ox oy x' y').run P w = .ok () w) → (∃ u, RV φ v u ∧ ∀ w, (binOp op t x' y').run P w = .ok u w) → ∃ u, RV φ v u ∧ ∀ w, (do eqGuard op t ox oy x' y'; binOp op t x' y' : Sem Value).run P w = .ok u w := by
    rintro hg ⟨u, h1, h2⟩
    exact ⟨u, h1, fun w => by simp [hg w, h2 w]⟩
  unfold abin at h
  split at h
  · cases hx; cases hy
    exact key (fun w => eqGuard_plain _ _ _ _ _ _ w (by simp) (by simp)) (aint_run op t _ _ _ _ v h)
  · cases hx; cases hy
    exact key (fun w => eqGuard_plain _ _ _ _ _ _ w (by simp) (by simp)) (astr_run op t _ _ v h)
  · cases hx; cases hy
    rename_i a b
    split at h
    · rename_i hk
      obtain ⟨d, i, u, z, hd, hdk, hi⟩ := tk_is hT hk (by simp)
      have hu : P.underlying t = some .bool := by rw [hi.und, tkOf_bool (hi.k.trans hdk)]
      refine key (fun w => eqGuard_plain _ _ _ _ _ _ w (by simp) (by simp)) (aeq_run h (by simp) (by simp) (by simp) (by simp) fun w => ?_)
      rw [equal_eq]; exact eqIn_bool hu _ _ _ w
    · cases h
  · rename_i xs ys
    cases hb : aeqIn T 4 t (.agg xs) (.agg ys) with
    | none => rw [hb] at h; cases h
    | some b =>
      rw [hb] at h
      have he := aeqIn_run (P := P) (φ := φ) hT 9996 4 t _ _ b hb x' y' hx hy
      have hq : P.eqGuardType P.depth t = false := by
        unfold aeqIn at hb
        split at hb
        · rename_i d hd
          obtain ⟨i, u, z, hi⟩ := tdOf_is (hT t d hd)
          split at hb
          all_goals try (cases hb; done)
          all_goals first | (exfalso; simp_all; done) | skip
          split at hb
          · rename_i hk _ _ heq
            have := hi.eqs
            rw [heq] at this
            unfold eqOf at this
            split at this
            · simp only [Bool.and_eq_true, Bool.not_eq_true'] at this; exact this.2
            · cases this
          · cases hb
        · cases hb
      obtain ⟨xs', rfl, hxs⟩ := RV.agg_iff.1 hx
      obtain ⟨ys', rfl, hys⟩ := RV.agg_iff.1 hy
      exact key (fun w => eqGuard_agg hq _ _ _ _ _ w) (aeq_run h (by simp) (by simp) (by simp) (by simp) fun w => by rw [equal_eq]; exact he w)
  · cases hy
    split at h
    · rename_i e hk
      obtain ⟨d, i, u, z, hd, hdk, hi⟩ := tk_is hT hk (by simp)
      have hu : P.underlying t = some (.slice e) := by rw [hi.und, tkOf_slice (hi.k.trans hdk)]
      cases hs : x.sliceNil with
      | none => rw [hs] at h; cases h
      | some b =>
        rw [hs] at h
        cases hx <;> simp only [AV.sliceNil, reduceCtorEq, Option.some.injEq, Nat.lt_irrefl, if_false, Option.ite_none_right_eq_some] at hs <;> (first | subst hs | (obtain ⟨-, rfl⟩ := hs)) <;>
          (refine key (fun w => eqGuard_plain _ _ _ _ _ _ w (by simp) (by simp)) (aeq_run h (by simp) (by simp) (by simp) (by simp) fun w => ?_) ;
           rw [equal_eq]; exact eqIn_slice_nil hu _ _ _ _ w)
    · cases h
  · cases hy
    split at h
    · rename_i e hk
      obtain ⟨d, i, u, z, hd, hdk, hi⟩ := tk_is hT hk (by simp)
      have hu : P.underlying t = some (.pointer e) := by rw [hi.und, tkOf_ptr (hi.k.trans hdk)]
      cases hs : x.ptrNil with
      | none => rw [hs] at h; cases h
      | some b =>
        rw [hs] at h
        cases hx <;> simp only [AV.ptrNil, reduceCtorEq, Option.some.injEq] at hs <;> subst hs <;>
          (refine key (fun w => eqGuard_plain _ _ _ _ _ _ w (by simp) (by simp)) (aeq_run h (by simp) (by simp) (by simp) (by simp) fun w => ?_) ;
           rw [equal_eq]; exact eqIn_ptr_nil hu _ _ w)
    · cases h
  · cases h

/-! ### The rest of them -/
def aun (op : UnOp) : AV → Option AV
  | .int k n => match op with
    | .neg => some (.int k (k.wrap (0 - n)))
    | .xor => some (.int k (k.wrap (BitVec.ofInt k.bits (if k.signed then -1 else k.max) ^^^ BitVec.ofInt k.bits n).toNat))
    | _ => none
  | .bool b => match op with
    | .not => some (.bool (!b))
    | _ => none
  | _ => none
theorem aun_run (op : UnOp) (x v : AV) (h : aun op x = some v) {x' : Value} (hx : RV φ x x') : ∃ u, RV φ v u ∧ ∀ w, (Op.unary op x').run P w = .ok u w := by
  cases hx <;> simp only [aun, reduceCtorEq] at h
  · cases op <;> simp only [reduceCtorEq, Option.some.injEq] at h
    · subst h; exact ⟨_, .int _ _, fun w => by simp [Op.unary, Op.intArith]⟩
    · subst h; exact ⟨_, .int _ _, fun w => by simp [Op.unary, Op.intBits]⟩
  · cases op <;> simp only [reduceCtorEq, Option.some.injEq] at h
    subst h; exact ⟨_, .bool _, fun w => by simp [Op.unary]⟩

def afieldOff (T : TypeId → Option TD) (s : TypeId) (f : Nat) : Option (Nat × TypeId) :=
  match tk T s with
  | .struct fs => fs[f]?
  | _ => none
theorem afieldOff_is (hT : TOk P T) {s : TypeId} {f off : Nat} {ty : TypeId} (h : afieldOff T s f = some (off, ty)) : ∃ gs g, P.underlying s = some (.struct gs) ∧ gs[f]? = some g ∧ g.offset = off ∧ g.type = ty := by
  unfold afieldOff at h
  split at h
  · rename_i fs hk
    obtain ⟨d, i, u, z, hd, hdk, hi⟩ := tk_is hT hk (by simp)
    obtain ⟨gs, rfl, hg⟩ := tkOf_struct (hi.k.trans hdk)
    subst hg
    rw [List.getElem?_map] at h
    cases hgf : gs.toList[f]? with
    | none => rw [hgf] at h; cases h
    | some g =>
      rw [hgf] at h
      simp only [Option.map_some, Option.some.injEq, Prod.mk.injEq] at h
      exact ⟨gs, g, hi.und, by simpa using hgf, h.1, h.2⟩
  · cases h
def asize (T : TypeId → Option TD) (t : TypeId) : Option Nat := (T t).map (·.size)
theorem asize_run (hT : TOk P T) {t : TypeId} {n : Nat} (h : asize T t = some n) (w : World) : (sizeOf t).run P w = .ok n w := by
  unfold asize at h
  cases hd : T t with
  | none => rw [hd] at h; cases h
  | some d =>
    rw [hd] at h
    simp only [Option.map_some, Option.some.injEq] at h; subst h
    obtain ⟨i, u, z, hi⟩ := tdOf_is (hT t d hd)
    exact run_sizeOf_of hi w

theorem RV.cptr_drop {cs : List AV} {r o : Nat} {z : List Value} (h : φ.fz r = some z) (hl : o + cs.length ≤ z.length) (h1 : ∀ a ∈ cs, a.one = true)
    (hx : ∀ (i : Nat) a v, cs[i]? = some a → z[o + i]? = some v → RV φ.bare a v) {k : Nat} (hk : k ≤ cs.length) : RV φ (.cptr (cs.drop k)) (.pointer (some ⟨r, o + k, none⟩)) :=
  .cptr _ r (o + k) z h (by rw [List.length_drop]; omega) (fun a ha => h1 a (List.mem_of_mem_drop ha)) fun i a v ha hv => hx (k + i) a v (by rw [List.getElem?_drop] at ha; exact ha) (by rw [← Nat.add_assoc]; exact hv)
theorem RV.cptr_take {cs : List AV} {v : Value} (h : RV φ (.cptr cs) v) (k : Nat) : RV φ (.cptr (cs.take k)) v := by
  cases h
  rename_i r o z hz hl h1 hx
  refine .cptr _ r o z hz (by rw [List.length_take]; omega) (fun a ha => h1 a (List.mem_of_mem_take ha)) fun i a v ha hv => hx i a v ?_ hv
  rw [List.getElem?_take] at ha
  split at ha
  · exact ha
  · cases ha
def afieldAddr (T : TypeId → Option TD) (s : TypeId) (x : AV) (f : Nat) : Option AV :=
  match afieldOff T s f, x with
  | some (off, ty), .ptr b o => match asize T ty with
    | some (n + 1) => some (.ptr b (o + off))
    | _ => none
  | some (off, ty), .cptr cs => match asize T ty with
    | some (n + 1) => if off ≤ cs.length then some (.cptr (cs.drop off)) else none
    | _ => none
  | _, _ => none
theorem addr_add (r o n : Nat) : (⟨r, o, none⟩ : Addr).add n = ⟨r, o + n, none⟩ := by unfold Addr.add; split <;> simp_all
theorem afieldAddr_run (hT : TOk P T) {s : TypeId} {x v : AV} {f : Nat} (h : afieldAddr T s x f = some v) {x' : Value} (hx : RV φ x x') :
    ∃ u, RV φ v u ∧ ∀ w, (Instr.fieldAt s x' f).run P w = .ok u w := by
  unfold afieldAddr at h
  split at h
  · rename_i off ty b o hoff
    obtain ⟨gs, g, hu, hg, rfl, rfl⟩ := afieldOff_is hT hoff
    split at h
    · rename_i n hn
      simp only [Option.some.injEq] at h; subst h
      cases hx
      rename_i L hL
      refine ⟨_, .ptr b (o + g.offset) L hL, fun w => ?_⟩
      simp [Instr.fieldAt, run_underlying hu, hg, Instr.sureAddr, fieldPlace, asize_run hT hn, addr_add, Nat.add_assoc]
    · cases h
  · rename_i off ty cs hoff
    obtain ⟨gs, g, hu, hg, rfl, rfl⟩ := afieldOff_is hT hoff
    split at h
    · rename_i n hn
      split at h
      · rename_i hle
        simp only [Option.some.injEq] at h; subst h
        cases hx
        rename_i r o z hz hl h1 hx
        refine ⟨_, RV.cptr_drop hz hl h1 hx hle, fun w => ?_⟩
        simp [Instr.fieldAt, run_underlying hu, hg, Instr.sureAddr, fieldPlace, asize_run hT hn, addr_add]
      · cases h
    · cases h
  · cases h
def afield (T : TypeId → Option TD) (s : TypeId) (x : AV) (f : Nat) : Option AV :=
  match afieldOff T s f, x with
  | some (off, ty), .agg l => apart T ty l off
  | _, _ => none
theorem afield_run (hT : TOk P T) {s : TypeId} {x v : AV} {f : Nat} (h : afield T s x f = some v) {x' : Value} (hx : RV φ x x') :
    ∃ u, RV φ v u ∧ ∀ w, (Instr.field s x' f).run P w = .ok u w := by
  unfold afield at h
  split at h
  · rename_i off ty l hoff
    obtain ⟨gs, g, hu, hg, rfl, rfl⟩ := afieldOff_is hT hoff
    obtain ⟨vs, rfl, hs⟩ := RV.agg_iff.1 hx
    obtain ⟨u, h1, h2⟩ := apart_run (P := P) hT h hs
    refine ⟨u, h1, fun w => ?_⟩
    simp [Instr.field, run_underlying hu, hg, asAgg, h2 w]
  · cases h
end
end Go.Proofs.PI

