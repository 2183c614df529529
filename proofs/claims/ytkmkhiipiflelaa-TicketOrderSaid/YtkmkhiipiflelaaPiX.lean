import Derived.Test.YtkmkhiipiflelaaPiR
/-! PI, part X: calls without arguments that are open: they are carried out by the kernel. -/
set_option linter.unusedVariables false
set_option linter.unusedSimpArgs false
namespace Go.Proofs.PI
open Go.RowKit

/-! ### Equality, as it is computed -/
def AV.beqN : Nat → AV → AV → Bool
  | 0, _, _ => false
  | n + 1, x, y => match x, y with
    | .int k a, .int l b => decide (k = l) && decide (a = b)
    | .bool a, .bool b => a == b
    | .str a, .str b => decide (a = b)
    | .nilp, .nilp => true
    | .ptr a b, .ptr c d => decide (a = c) && decide (b = d)
    | .nils, .nils => true
    | .emp, .emp => true
    | .sl a b c d, .sl e f g h => decide (a = e) && decide (b = f) && decide (c = g) && decide (d = h)
    | .agg l, .agg m => l.length == m.length && (l.zip m).all fun p => AV.beqN n p.1 p.2
    | .tup l, .tup m => l.length == m.length && (l.zip m).all fun p => AV.beqN n p.1 p.2
    | .fn f a b, .fn g c d => decide (f = g) && (a.length == c.length && (a.zip c).all fun p => AV.beqN n p.1 p.2) && (b.length == d.length && (b.zip d).all fun p => AV.beqN n p.1 p.2)
    | .nilf, .nilf => true
    | .nul, .nul => true
    | _, _ => false
theorem zip_eq {n : Nat} (ih : ∀ x y, AV.beqN n x y = true → x = y) : ∀ (l m : List AV), l.length = m.length → ((l.zip m).all fun p => AV.beqN n p.1 p.2) = true → l = m
  | [], [], _, _ => rfl
  | a :: l, b :: m, h, hz => by
    simp only [List.zip_cons_cons, List.all_cons, Bool.and_eq_true] at hz
    rw [ih a b hz.1, zip_eq ih l m (by simpa using h) hz.2]
theorem AV.beqN_eq : ∀ (n : Nat) (x y : AV), AV.beqN n x y = true → x = y
  | 0, _, _, h => by cases h
  | n + 1, x, y, h => by
    have hz := fun l m h1 h2 => zip_eq (AV.beqN_eq n) l m h1 h2
    cases x <;> cases y <;> simp only [AV.beqN, Bool.and_eq_true, decide_eq_true_eq, beq_iff_eq, reduceCtorEq, Bool.false_eq_true] at h
    case fn.fn => rw [hz _ _ h.1.2.1 h.1.2.2, hz _ _ h.2.1 h.2.2, h.1.1]
    case agg.agg => rw [hz _ _ h.1 h.2]
    case tup.tup => rw [hz _ _ h.1 h.2]
    all_goals first | rfl | (simp only [h]; done)
def Blk.beq (B C : Blk) : Bool := (B.cells.length == C.cells.length && (B.cells.zip C.cells).all fun p => AV.beqN 2 p.1 p.2) && decide (B.esz = C.esz) && (match B.st, C.st with
  | .dead, .dead => true
  | .ro, .ro => true
  | .opn, .opn => true
  | .full, .full => true
  | _, _ => false)
theorem Blk.beq_eq {B C : Blk} (h : Blk.beq B C = true) : B = C := by
  obtain ⟨bc, be, bs⟩ := B; obtain ⟨cc, ce, cs⟩ := C
  simp only [Blk.beq, Bool.and_eq_true, beq_iff_eq, decide_eq_true_eq] at h
  obtain ⟨⟨⟨h1, h2⟩, h3⟩, h4⟩ := h
  have := zip_eq (AV.beqN_eq 2) _ _ h1 h2
  subst this; subst h3
  cases bs <;> cases cs <;> first | rfl | (simp at h4)
def RC.okB (T : TypeId → Option TD) (H : Heap) : RC → Bool
  | .pure => true
  | .load t p v => match aload T H t p with | some u => AV.beqN 3 u v | none => false
  | .slice t x lo hi mx v => match aslice T H t x lo hi mx with | some u => AV.beqN 3 u v | none => false
  | .bytes src dst x v => match abytesStr T H src dst x with | some u => AV.beqN 3 u v | none => false
  | .blk s H₀ => match H[s]?, H₀[s]? with | some B, some C => Blk.beq B C | _, _ => false
theorem RC.okB_ok {T : TypeId → Option TD} {H : Heap} {r : RC} (h : r.okB T H = true) : r.ok T H := by
  cases r <;> simp only [RC.okB] at h
  · trivial
  · split at h
    · rename_i u hu; show aload .. = _; rw [hu, AV.beqN_eq _ _ _ h]
    · cases h
  · split at h
    · rename_i u hu; show aslice .. = _; rw [hu, AV.beqN_eq _ _ _ h]
    · cases h
  · split at h
    · rename_i u hu; show abytesStr .. = _; rw [hu, AV.beqN_eq _ _ _ h]
    · cases h
  · split at h
    · rename_i B C h1 h2; show _ = _; rw [h1, h2, Blk.beq_eq h]
    · cases h
def keepAllB (T : TypeId → Option TD) : List Bool → List RC → Heap → Bool
  | false :: fl, r :: rs, H => r.okB T H && keepAllB T fl rs H
  | true :: fl, _ :: rs, H => keepAllB T fl rs H
  | _, _, _ => true
theorem keepAllB_ok {T : TypeId → Option TD} {H : Heap} : ∀ {fl : List Bool} {rs : List RC}, keepAllB T fl rs H = true → keepAll T fl rs H
  | [], _, _ => by unfold keepAll; trivial
  | false :: fl, [], _ => by unfold keepAll; trivial
  | true :: fl, [], _ => by unfold keepAll; trivial
  | false :: fl, r :: rs, h => by
    simp only [keepAllB, Bool.and_eq_true] at h
    exact ⟨RC.okB_ok h.1, keepAllB_ok h.2⟩
  | true :: fl, r :: rs, h => keepAllB_ok (fl := fl) (rs := rs) h

/-! ### Values made whole before they are handed on -/
section
variable {α : Type}
def fnat (n : Nat) (k : Nat → α) : α := match n with
  | 0 => k 0
  | .succ m => k (.succ m)
theorem fnat_eq (n : Nat) (k : Nat → α) : fnat n k = k n := by cases n <;> rfl
def fint (z : Int) (k : Int → α) : α := match z with
  | .ofNat m => fnat m fun m => k (.ofNat m)
  | .negSucc m => fnat m fun m => k (.negSucc m)
theorem fint_eq (z : Int) (k : Int → α) : fint z k = k z := by cases z <;> simp only [fint, fnat_eq]
def fbytes : List UInt8 → (List UInt8 → α) → α
  | [], k => k []
  | b :: l, k => fnat b.toNat fun n => fbytes l fun l' => k (UInt8.ofNat n :: l')
theorem fbytes_eq : ∀ (l : List UInt8) (k : List UInt8 → α), fbytes l k = k l
  | [], k => rfl
  | b :: l, k => by simp only [fbytes, fnat_eq, fbytes_eq l, UInt8.ofNat_toNat]
def fopt (o : Option Nat) (k : Option Nat → α) : α := match o with
  | none => k none
  | some n => fnat n fun n => k (some n)
theorem fopt_eq (o : Option Nat) (k : Option Nat → α) : fopt o k = k o := by cases o <;> simp only [fopt, fnat_eq]
def fbool (b : Bool) (k : Bool → α) : α := match b with
  | true => k true
  | false => k false
theorem fbool_eq (b : Bool) (k : Bool → α) : fbool b k = k b := by cases b <;> rfl
def AV.f1 (v : AV) (c : AV → α) : α := match v with
  | .int k n => fint n fun n => c (.int k n)
  | .bool b => fbool b fun b => c (.bool b)
  | .str s => fbytes s fun s => c (.str s)
  | .ptr b o => fnat b fun b => fnat o fun o => c (.ptr b o)
  | .sl b o n cap => fnat b fun b => fnat o fun o => fnat n fun n => fopt cap fun cap => c (.sl b o n cap)
  | v => c v
theorem AV.f1_eq (v : AV) (c : AV → α) : v.f1 c = c v := by cases v <;> simp only [AV.f1, fint_eq, fbool_eq, fbytes_eq, fnat_eq, fopt_eq]
def f1s : List AV → (List AV → α) → α
  | [], k => k []
  | a :: l, k => a.f1 fun a => f1s l fun l => k (a :: l)
theorem f1s_eq : ∀ (l : List AV) (k : List AV → α), f1s l k = k l
  | [], k => rfl
  | a :: l, k => by simp only [f1s, AV.f1_eq, f1s_eq l]
def AV.f2 (v : AV) (c : AV → α) : α := match v with
  | .agg l => f1s l fun l => c (.agg l)
  | v => v.f1 c
theorem AV.f2_eq (v : AV) (c : AV → α) : v.f2 c = c v := by cases v <;> simp only [AV.f2, AV.f1_eq, f1s_eq]
def f2s : List AV → (List AV → α) → α
  | [], k => k []
  | a :: l, k => a.f2 fun a => f2s l fun l => k (a :: l)
theorem f2s_eq : ∀ (l : List AV) (k : List AV → α), f2s l k = k l
  | [], k => rfl
  | a :: l, k => by simp only [f2s, AV.f2_eq, f2s_eq l]
def AV.f3 (v : AV) (c : AV → α) : α := match v with
  | .int k n => fint n fun n => c (.int k n)
  | .bool b => fbool b fun b => c (.bool b)
  | .str s => fbytes s fun s => c (.str s)
  | .ptr b o => fnat b fun b => fnat o fun o => c (.ptr b o)
  | .sl b o n cap => fnat b fun b => fnat o fun o => fnat n fun n => fopt cap fun cap => c (.sl b o n cap)
  | .agg l => f1s l fun l => c (.agg l)
  | .tup l => f2s l fun l => c (.tup l)
  | .fn f a b => fnat f fun f => f2s a fun a => f2s b fun b => c (.fn f a b)
  | .nilp => c .nilp
  | .nils => c .nils
  | .emp => c .emp
  | .nilf => c .nilf
  | .lst n cs => c (.lst n cs)
  | .cptr cs => c (.cptr cs)
  | .nul => c .nul
  | .junk => c .junk
theorem AV.f3_eq (v : AV) (c : AV → α) : v.f3 c = c v := by cases v <;> simp only [AV.f3, fint_eq, fbool_eq, fbytes_eq, fnat_eq, fopt_eq, f1s_eq, f2s_eq]
def f3s : List AV → (List AV → α) → α
  | [], k => k []
  | a :: l, k => a.f3 fun a => f3s l fun l => k (a :: l)
theorem f3s_eq : ∀ (l : List AV) (k : List AV → α), f3s l k = k l
  | [], k => rfl
  | a :: l, k => by simp only [f3s, AV.f3_eq, f3s_eq l]
noncomputable def fset {β : Type} (l : List β) : Nat → β → (List β → α) → α :=
  List.rec (motive := fun _ => Nat → β → (List β → α) → α) (fun _ _ k => k []) (fun a l ih d v k => Nat.rec (motive := fun _ => α) (k (v :: l)) (fun d' _ => ih d' v fun l' => k (a :: l')) d) l
theorem fset_eq {β : Type} : ∀ (l : List β) (d : Nat) (v : β) (k : List β → α), fset l d v k = k (l.set d v)
  | [], _, _, k => rfl
  | _ :: l, 0, v, k => rfl
  | a :: l, .succ d, v, k => by show fset l d v _ = _; rw [fset_eq l, List.set_cons_succ]
noncomputable def oget {β : Type} (l : List β) : Nat → Option β :=
  List.rec (motive := fun _ => Nat → Option β) (fun _ => none) (fun a _ ih d => Nat.rec (motive := fun _ => Option β) (some a) (fun d' _ => ih d') d) l
theorem oget_eq {β : Type} : ∀ (l : List β) (d : Nat), oget l d = l[d]?
  | [], _ => rfl
  | _ :: l, 0 => rfl
  | a :: l, .succ d => by show oget l d = _; rw [oget_eq l, List.getElem?_cons_succ]
noncomputable def frep {β : Type} (v : β) (n : Nat) : (List β → α) → α :=
  Nat.rec (motive := fun _ => (List β → α) → α) (fun k => k []) (fun _ ih k => ih fun l => k (v :: l)) n
theorem frep_eq {β : Type} (v : β) : ∀ (n : Nat) (k : List β → α), frep v n k = k (List.replicate n v)
  | 0, k => rfl
  | n + 1, k => by show frep v n _ = _; rw [frep_eq v n, List.replicate_succ]
noncomputable def fini {β : Type} (v : β) (n : Nat) (l : List β) : (List β → α) → α :=
  List.rec (motive := fun _ => (List β → α) → α) (frep v n) (fun a _ ih k => ih fun l => k (a :: l)) l
theorem fini_eq {β : Type} (v : β) (n : Nat) : ∀ (l : List β) (k : List β → α), fini v n l k = k (l ++ List.replicate n v)
  | [], k => by show frep v n k = _; rw [frep_eq]; rfl
  | a :: l, k => by show fini v n l _ = _; rw [fini_eq v n l]; rfl
def fblk (B : Blk) (k : Blk → α) : α := f1s B.cells fun cs => fnat B.esz fun e => match B.st with
  | .dead => k ⟨cs, e, .dead⟩
  | .ro => k ⟨cs, e, .ro⟩
  | .opn => k ⟨cs, e, .opn⟩
  | .full => k ⟨cs, e, .full⟩
theorem fblk_eq (B : Blk) (k : Blk → α) : fblk B k = k B := by
  obtain ⟨cs, e, s⟩ := B
  simp only [fblk, f1s_eq, fnat_eq]
  cases s <;> rfl
end

/-! ### What an operation does to the heap -/
inductive HD where
  | same
  | set (b : Nat) (B : Blk)
  | snoc (B : Blk)
  | two (b : Nat) (B C : Blk)
def HD.ap (H : Heap) : HD → Heap
  | .same => H
  | .set b B => List.set H b B
  | .snoc B => H ++ [B]
  | .two b B C => List.set H b B ++ [C]
/-- The heap, the last block first. -/
structure XH where
  n : Nat
  r : List Blk
def XH.to (h : XH) : Heap := h.r.reverse
def XH.wf (h : XH) : Prop := h.n = h.r.length
noncomputable def XH.get (h : XH) (b : Nat) : Option Blk := Bool.rec (motive := fun _ => Option Blk) none (oget h.r (Nat.pred (Nat.sub h.n b))) (Nat.blt b h.n)
theorem XH.get_eq {h : XH} (hw : h.wf) (b : Nat) : h.get b = h.to[b]? := by
  unfold XH.get XH.to
  cases hb : Nat.blt b h.n with
  | false =>
    have : ¬ b < h.n := fun hlt => by rw [show Nat.blt b h.n = true by simp only [Nat.blt_eq]; exact hlt] at hb; cases hb
    rw [List.getElem?_eq_none]
    rw [List.length_reverse, ← hw]; omega
  | true =>
    have : b < h.n := by simp only [Nat.blt_eq] at hb; exact hb
    show oget _ _ = _
    rw [oget_eq, List.getElem?_reverse (by rw [← hw]; exact this), ← hw]
    congr 1
    show h.n - b - 1 = _
    omega
theorem XH.len {h : XH} (hw : h.wf) : h.to.length = h.n := by rw [XH.to, List.length_reverse, hw]
theorem set_rev {β : Type} (l : List β) (i : Nat) (v : β) (h : i < l.length) : (l.set (l.length - i - 1) v).reverse = l.reverse.set i v := by
  apply List.ext_getElem?
  intro j
  by_cases hj : j < l.length
  · rw [List.getElem?_reverse (by simpa using hj), List.length_set, List.getElem?_set, List.getElem?_set, List.getElem?_reverse hj, List.length_reverse]
    by_cases e : i = j
    · subst e; rw [if_pos (by omega), if_pos rfl, if_pos (by omega), if_pos h]
    · rw [if_neg (by omega), if_neg e]
  · rw [List.getElem?_eq_none (by simpa using hj), List.getElem?_eq_none (by simpa using hj)]
noncomputable def HD.fap {α : Type} (h : XH) (k : XH → Option α) : HD → Option α
  | .same => k h
  | .set b B => match Nat.blt b h.n with
    | true => fblk B fun B => fset h.r (Nat.pred (Nat.sub h.n b)) B fun r => k ⟨h.n, r⟩
    | false => none
  | .snoc B => fblk B fun B => k ⟨Nat.succ h.n, B :: h.r⟩
  | .two b B C => match Nat.blt b h.n with
    | true => fblk B fun B => fblk C fun C => fset h.r (Nat.pred (Nat.sub h.n b)) B fun r => k ⟨Nat.succ h.n, C :: r⟩
    | false => none
/-! The operations, with the heap as a function. -/
def gread (g : Nat → Option Blk) (b o n : Nat) : Option (List AV) :=
  match g b with
  | some B => if B.st.alive = true ∧ o + n ≤ B.cells.length then some ((B.cells.drop o).take n) else none
  | none => none
def gload (T : TypeId → Option TD) (g : Nat → Option Blk) (t : TypeId) (x : AV) : Option AV :=
  match x, T t with
  | .ptr b o, some d => match d.k.isAgg with
    | some true => (gread g b o d.size).map .agg
    | some false => match gread g b o 1 with
      | some [v] => some v
      | _ => none
    | none => none
  | .cptr cs, some d => match d.k.isAgg with
    | some true => if d.size ≤ cs.length then some (.agg (cs.take d.size)) else none
    | some false => cs[0]?
    | none => none
  | _, _ => none
def gbytesStr (T : TypeId → Option TD) (g : Nat → Option Blk) (src dst : TypeId) (x : AV) : Option AV :=
  match asliceElem T src, tk T dst with
  | some (e, _), .str => match tk T e, x with
    | .int .u8, .nils => some (.str [])
    | .int .u8, .emp => some (.str [])
    | .int .u8, .sl b o len _ => ((gread g b o len).bind abytes).map .str
    | .int .u8, .lst n cs => if cs.length = n then (abytes cs).map .str else none
    | .int .u8, .nul => some (.str [])
    | _, _ => none
  | _, _ => none
def groom (g : Nat → Option Blk) (b o sz len : Nat) (cap : Option Nat) (n : Nat) : Bool :=
  match cap with
  | some c => decide (n ≤ c)
  | none => decide (n ≤ len) || (match g b with
    | some B => B.st.own && decide (B.esz = sz) && decide (0 < sz) && decide (o + n * sz ≤ B.cells.length)
    | none => false)
def gesz (g : Nat → Option Blk) (b sz : Nat) : Bool := match g b with
  | some B => B.st.alive && decide (B.esz = sz)
  | none => false
def gslice (T : TypeId → Option TD) (g : Nat → Option Blk) (t : TypeId) (x : AV) (lo hi mx : Option AV) : Option AV :=
  match x with
  | .str s => match tk T t, mx, abound 0 lo, abound s.length hi with
    | .str, none, some l, some h => if l ≤ h ∧ h ≤ s.length then some (.str ((s.take h).drop l)) else none
    | _, _, _, _ => none
  | .nils => match asliceElem T t, mx, abound 0 lo, abound 0 hi with
    | some _, none, some l, some h => if l = 0 ∧ h = 0 then some .nils else none
    | some _, some (.int _ m), some l, some h => if m = 0 ∧ l = 0 ∧ h = 0 ∧ hi.isSome = true then some .nils else none
    | _, _, _, _ => none
  | .emp => match asliceElem T t, mx, abound 0 lo, abound 0 hi with
    | some _, none, some l, some h => if l = 0 ∧ h = 0 then some .emp else none
    | some _, some (.int _ m), some l, some h => if m = 0 ∧ l = 0 ∧ h = 0 ∧ hi.isSome = true then some .emp else none
    | _, _, _, _ => none
  | .nul => match asliceElem T t, mx, abound 0 lo, abound 0 hi with
    | some _, none, some l, some h => if l = 0 ∧ h = 0 then some .nul else none
    | some _, some (.int _ m), some l, some h => if m = 0 ∧ l = 0 ∧ h = 0 ∧ hi.isSome = true then some .nul else none
    | _, _, _, _ => none
  | .lst n cs => match asliceElem T t, abound 0 lo, abound n hi with
    | some (_, sz), some l, some h => match mx with
      | none => if l ≤ h ∧ h ≤ n ∧ h * sz ≤ cs.length then some (.lst (h - l) ((cs.drop (l * sz)).take ((h - l) * sz))) else none
      | some (.int _ m) => if 0 ≤ m ∧ l ≤ h ∧ h ≤ m.toNat ∧ m.toNat ≤ n ∧ h * sz ≤ cs.length ∧ hi.isSome = true then
          (if m.toNat = l then some .nul else some (.lst (h - l) ((cs.drop (l * sz)).take ((h - l) * sz)))) else none
      | some _ => none
    | _, _, _ => none
  | .sl b o len cap => match asliceElem T t, abound 0 lo, abound len hi with
    | some (_, sz), some l, some h => match mx with
      | none => if l ≤ h ∧ groom g b o sz len cap h = true ∧ gesz g b sz = true then
          (if l = 0 then some (.sl b o h cap) else if l = h then some .emp else some (.sl b (o + l * sz) (h - l) (cap.map (· - l)))) else none
      | some (.int _ m) => if 0 ≤ m ∧ l ≤ h ∧ h ≤ m.toNat ∧ hi.isSome = true ∧ groom g b o sz len cap m.toNat = true then
          (if l = 0 then some (.sl b o h (some m.toNat)) else if l = h then some .emp else some (.sl b (o + l * sz) (h - l) (some (m.toNat - l)))) else none
      | some _ => none
    | _, _, _ => none
  | _ => none
def gsrc (T : TypeId → Option TD) (g : Nat → Option Blk) (tx : TypeId) (x : AV) (sz : Nat) : Option (Nat × List AV) :=
  match tk T tx, x with
  | .slice _, .nils => some (0, [])
  | .slice _, .emp => some (0, [])
  | .slice _, .sl b o len _ => (gread g b o (len * sz)).map fun l => (len, l)
  | .slice _, .lst n cs => if cs.length = n * sz then some (n, cs) else none
  | .slice _, .nul => some (0, [])
  | .str, .str s => if sz = 1 then some (s.length, s.map fun b => .int .u8 b.toNat) else none
  | _, _ => none
section
variable (T : TypeId → Option TD) (H : Heap)
theorem gread_eq : gread (fun b => H[b]?) = H.read := rfl
theorem gload_eq : gload T (fun b => H[b]?) = aload T H := rfl
theorem gbytesStr_eq : gbytesStr T (fun b => H[b]?) = abytesStr T H := rfl
theorem gslice_eq : gslice T (fun b => H[b]?) = aslice T H := rfl
theorem gsrc_eq : gsrc T (fun b => H[b]?) = asrc T H := rfl
end
def astoreD (T : TypeId → Option TD) (g : Nat → Option Blk) (t : TypeId) (x v : AV) : Option (Nat × Blk) :=
  match x, asize T t with
  | .ptr b o, some n => match g b with
    | some B => if B.st.own = true ∧ v.solid = true ∧ v.cells.length = n ∧ o + v.cells.length ≤ B.cells.length then some (b, ⟨wr B.cells o v.cells, B.esz, B.st⟩) else none
    | none => none
  | _, _ => none
theorem astoreD_eq {T : TypeId → Option TD} {H : Heap} {t : TypeId} {x v : AV} {p : Nat × Blk} (h : astoreD T (fun b => H[b]?) t x v = some p) : astore T H t x v = some (List.set H p.1 p.2) := by
  unfold astoreD at h
  split at h
  · rename_i b o n hn
    split at h
    · rename_i B hB
      split at h
      · rename_i hc
        simp only [Option.some.injEq] at h; subst h
        simp only [astore, hn, hB, if_pos hc]
      · cases h
    · cases h
  · cases h
def aappendD (T : TypeId → Option TD) (g : Nat → Option Blk) (m : Nat) (t tx : TypeId) (s x : AV) : Option (AV × HD) :=
  match asliceElem T t with
  | some (e, sz) => match azero T e, T e, gsrc T g tx x sz with
    | some z, some d, some (k, xs) => match s with
      | .nils => if k = 0 then some (.nils, .same) else if k * d.bytes ≤ 140737488355328 ∧ k ≤ 140737488355328 then some (.sl m 0 k none, .snoc ⟨xs, sz, .opn⟩) else none
      | .emp => if k = 0 then some (.emp, .same) else none
      | .sl b o len cap => if k = 0 then some (.sl b o len cap, .same) else match g b with
        | some B =>
          if roomFor B o len k sz cap = true then some (.sl b o (len + k) cap, .set b ⟨wr B.cells (o + len * sz) xs, B.esz, B.st⟩)
          else if (len + k) * d.bytes ≤ 140737488355328 ∧ len + k ≤ 140737488355328 ∧ 0 < sz then
            match gread g b o (len * sz) with
            | some old =>
              if noRoomFor B o len k sz cap = true then some (.sl m 0 (len + k) none, .snoc ⟨old ++ xs, sz, .opn⟩)
              else if B.st.own = true ∧ B.esz = sz ∧ cap = none then some (.sl m 0 (len + k) none, .two b ⟨B.cells, B.esz, .dead⟩ ⟨old ++ xs, sz, .opn⟩)
              else none
            | none => none
          else none
        | none => none
      | _ => none
    | _, _, _ => none
  | none => none
theorem aappendD_eq {T : TypeId → Option TD} {H : Heap} {t tx : TypeId} {s x v : AV} {d : HD} (h : aappendD T (fun b => H[b]?) H.length t tx s x = some (v, d)) : aappend T H t tx s x = some (v, d.ap H) := by
  unfold aappendD at h
  rw [gsrc_eq, gread_eq] at h
  unfold aappend
  repeat' split at h
  all_goals first
    | (cases h; done)
    | (simp only [Option.some.injEq, Prod.mk.injEq] at h; obtain ⟨rfl, rfl⟩ := h; simp only [*, HD.ap, if_true, if_false, and_self, Bool.false_eq_true, not_false_eq_true]; done)
    | (simp only [Option.some.injEq, Prod.mk.injEq] at h; obtain ⟨rfl, rfl⟩ := h; rename_i hc; obtain ⟨c1, c2, rfl⟩ := hc; subst c2; simp only [*, HD.ap, if_true, if_false, and_self, Bool.false_eq_true, not_false_eq_true]; done)
    | skip
def aclearD (T : TypeId → Option TD) (g : Nat → Option Blk) (t : TypeId) (x : AV) : Option HD :=
  match asliceElem T t with
  | some (e, sz) => match x with
    | .nils => some .same
    | .emp => some .same
    | .sl b o len _ => if len = 0 then some .same else match azero T e, g b with
      | some z, some B => if B.st.own = true ∧ o + len * sz ≤ B.cells.length then some (.set b ⟨wr B.cells o (reps len z), B.esz, B.st⟩) else none
      | _, _ => none
    | _ => none
  | none => none
theorem aclearD_eq {T : TypeId → Option TD} {H : Heap} {t : TypeId} {x : AV} {d : HD} (h : aclearD T (fun b => H[b]?) t x = some d) : aclear T H t x = some (d.ap H) := by
  unfold aclearD at h
  unfold aclear
  repeat' split at h
  all_goals first
    | (cases h; done)
    | (simp only [Option.some.injEq] at h; subst h; simp only [*, HD.ap, if_true, if_false, and_self, Bool.false_eq_true, not_false_eq_true]; done)
    | skip
def xoNew (m : Nat) (p : Option (Blk × (Nat → AV))) : Option (AV × HD) := match p with
  | some p => some (p.2 m, .snoc p.1)
  | none => none
def xoVal (p : Option AV) : Option (AV × HD) := match p with
  | some v => some (v, .same)
  | none => none
def xoStore (T : TypeId → Option TD) (ev : Operand → AV) (g : Nat → Option Blk) (t : TypeId) (x v : Operand) : Option (AV × HD) := match astoreD T g t (ev x) (ev v) with
  | some p => some (.tup [], .set p.1 p.2)
  | none => none
def xoSlice (T : TypeId → Option TD) (ev : Operand → AV) (g : Nat → Option Blk) (t : TypeId) (x : Operand) (lo hi mx : Option Operand) : Option (AV × HD) := xoVal (gslice T g t (ev x) (lo.map ev) (hi.map ev) (mx.map ev))
def xoConv (T : TypeId → Option TD) (ev : Operand → AV) (g : Nat → Option Blk) (m : Nat) (src dst : TypeId) (x : Operand) : Option (AV × HD) := match tk T src, tk T dst with
  | .slice _, .str => xoVal (gbytesStr T g src dst (ev x))
  | .str, .slice _ => xoNew m (aalloc T ev (.convert src dst x))
  | _, _ => xoVal (aconv T src dst (ev x))
def xoAppend (T : TypeId → Option TD) (ev : Operand → AV) (g : Nat → Option Blk) (m : Nat) (args : Array Operand) (ts : Array TypeId) : Option (AV × HD) := match args.toList, ts.toList with
  | [s, x], [t, tx] => aappendD T g m t tx (ev s) (ev x)
  | _, _ => none
def xoClear (T : TypeId → Option TD) (ev : Operand → AV) (g : Nat → Option Blk) (args : Array Operand) (ts : Array TypeId) : Option (AV × HD) := match args.toList, ts.toList with
  | [x], [t] => match aclearD T g t (ev x) with
    | some d => some (.tup [], d)
    | none => none
  | _, _ => none
def xo (T : TypeId → Option TD) (ev : Operand → AV) (g : Nat → Option Blk) (m : Nat) : Op → Option (AV × HD)
  | .store t x v => xoStore T ev g t x v
  | .load t x => xoVal (gload T g t (ev x))
  | .slice t x lo hi mx => xoSlice T ev g t x lo hi mx
  | .alloc e => xoNew m (aalloc T ev (.alloc e))
  | .box e x => xoNew m (aalloc T ev (.box e x))
  | .buildSlice t len parts => xoNew m (aalloc T ev (.buildSlice t len parts))
  | .makeSlice t l c => xoNew m (aalloc T ev (.makeSlice t l c))
  | .convert src dst x => xoConv T ev g m src dst x
  | .call ⟨.value _, _, _⟩ => none
  | .call ⟨.builtin .append, args, ts⟩ => xoAppend T ev g m args ts
  | .call ⟨.builtin .clear, args, ts⟩ => xoClear T ev g args ts
  | op => xoVal (apure T ev op)
theorem HD.fap_some {α : Type} {h : XH} (hw : h.wf) {k : XH → Option α} {d : HD} {a : α} (e : d.fap h k = some a) : ∃ h' : XH, h'.wf ∧ h'.to = d.ap h.to ∧ k h' = some a := by
  have hs : ∀ b B, Nat.blt b h.n = true → (h.r.set (Nat.pred (Nat.sub h.n b)) B).reverse = h.r.reverse.set b B := fun b B hb => by
    have : b < h.n := by simp only [Nat.blt_eq] at hb; exact hb
    rw [← set_rev _ _ _ (by rw [← hw]; exact this), ← hw]; rfl
  cases d with
  | same => exact ⟨h, hw, rfl, e⟩
  | set b B =>
    simp only [HD.fap] at e
    split at e
    · rename_i hb
      simp only [fblk_eq, fset_eq] at e
      exact ⟨⟨h.n, h.r.set (Nat.pred (Nat.sub h.n b)) B⟩, by simpa [XH.wf] using hw, hs _ _ hb, e⟩
    · cases e
  | snoc B =>
    simp only [HD.fap, fblk_eq] at e
    exact ⟨⟨Nat.succ h.n, B :: h.r⟩, by simpa [XH.wf] using hw, by simp [XH.to, HD.ap], e⟩
  | two b B C =>
    simp only [HD.fap] at e
    split at e
    · rename_i hb
      simp only [fblk_eq, fset_eq] at e
      exact ⟨⟨Nat.succ h.n, C :: h.r.set (Nat.pred (Nat.sub h.n b)) B⟩, by simpa [XH.wf] using hw, by simp only [XH.to, HD.ap, List.reverse_cons]; rw [hs _ _ hb], e⟩
    · cases e
section
variable {P : Program} {T : TypeId → Option TD}
theorem xo_sound {ev : Operand → AV} {o : Oper} {H : Heap} {K : AV → Heap → Prop} {v : AV} {d : HD} (h : xo T ev (fun b => H[b]?) H.length o.op = some (v, d)) (hK : K v (d.ap H)) : WOp P T ev o H K := by
  have pure : ∀ x : Option AV, xoVal x = some (v, d) → On1 x (atH K H) := fun x hx => by
    cases x with
    | none => cases hx
    | some u => simp only [xoVal, Option.some.injEq, Prod.mk.injEq] at hx; obtain ⟨rfl, rfl⟩ := hx; exact hK
  have new : ∀ x : Option (Blk × (Nat → AV)), xoNew H.length x = some (v, d) → OnB x (snocK K H) := fun x hx => by
    cases x with
    | none => cases hx
    | some u => simp only [xoNew, Option.some.injEq, Prod.mk.injEq] at hx; obtain ⟨rfl, rfl⟩ := hx; exact hK
  unfold WOp
  cases ho : o.op
  case store t x y =>
    rw [ho] at h
    simp only [xo, xoStore] at h
    split at h
    · rename_i p hs
      simp only [Option.some.injEq, Prod.mk.injEq] at h
      obtain ⟨rfl, rfl⟩ := h
      simp only
      rw [astoreD_eq hs]; exact hK
    · cases h
  case convert src dst x =>
    rw [ho] at h
    simp only [xo, xoConv, gbytesStr_eq] at h
    simp only
    split at h
    · first | (simp only [*] at h ⊢; exact pure _ h) | (simp only [*] at h ⊢; done)
    · first | (simp only [*] at h ⊢; exact new _ h) | (simp only [*] at h ⊢; done)
    · split
      · simp_all
      · simp_all
      · exact pure _ h
  case call c =>
    rw [ho] at h
    obtain ⟨callee, args, ts⟩ := c
    simp only
    unfold WCall
    cases callee with
    | value f => cases h
    | builtin b =>
      cases b
      case append =>
        simp only [xo, xoAppend] at h
        simp only
        split at h
        · simp only [*]
          rw [aappendD_eq h]; exact hK
        · cases h
      case clear =>
        simp only [xo, xoClear] at h
        simp only
        split at h
        · rename_i x t ha ht
          split at h
          · rename_i q hs
            simp only [Option.some.injEq, Prod.mk.injEq] at h
            obtain ⟨rfl, rfl⟩ := h
            simp only [ha, ht]
            rw [aclearD_eq hs]; exact hK
          · cases h
        · cases h
      all_goals exact pure _ (by rw [ho]; exact h)
    | _ => exact pure _ (by rw [ho]; exact h)
  all_goals rw [ho] at h; simp only [xo, xoSlice, gload_eq, gslice_eq] at h; first | exact pure _ h | exact new _ h

/-! ### Regions -/
def toFr (l : List AV) : Fr := fun t => l.getD t (.tup [])
noncomputable def lget (l : List AV) : Nat → AV := List.rec (motive := fun _ => Nat → AV) (fun _ => .tup []) (fun a _ ih d => Nat.rec (motive := fun _ => AV) a (fun d' _ => ih d') d) l
theorem lget_eq : ∀ (l : List AV), lget l = toFr l
  | [] => rfl
  | a :: l => by
    funext d
    cases d with
    | zero => rfl
    | succ d => show lget l d = _; rw [lget_eq l]; simp [toFr]
noncomputable abbrev evL (l : List AV) : Operand → AV := Fr.ev (lget l)
theorem evL_eq (l : List AV) : evL l = (toFr l).ev := by unfold evL; rw [lget_eq]
abbrev XCall := FuncId → List AV → XH → Option (AV × XH)
def CallOk (P : Program) (call : XCall) : Prop := ∀ f args h r h', h.wf → call f args h = some (r, h') → h'.wf ∧ WC P f args h.to fun r1 H1 => r1 = r ∧ H1 = h'.to
def xcal {β : Type} (call : XCall) (ev : Operand → AV) (f : AV) (args : Array Operand) (h : XH) (k : AV → XH → Option β) : Option β := match f with
  | .fn g first caps => f3s (first ++ args.toList.map ev ++ caps) fun as => match call g as h with
    | some (v, h') => k v h'
    | none => none
  | _ => none
noncomputable def xrest {β : Type} (h : XH) (k : AV → XH → Option β) (x : Option (AV × HD)) : Option β := match x with
  | some (v, d) => v.f3 fun v => d.fap h fun h' => k v h'
  | none => none
noncomputable def xop {β : Type} (call : XCall) (T : TypeId → Option TD) (ev : Operand → AV) (op : Op) (h : XH) (k : AV → XH → Option β) : Option β :=
  match op with
  | .call ⟨.value f, args, _⟩ => xcal call ev (ev f) args h k
  | op => xrest h k (xo T ev h.get h.n op)
theorem xop_sound {β : Type} {call : XCall} (hc : CallOk P call) {ev : Operand → AV} {o : Oper} {h : XH} (hw : h.wf) {k : AV → XH → Option β} {b : β} (e : xop call T ev o.op h k = some b) :
    ∃ v h', h'.wf ∧ k v h' = some b ∧ ∀ K : AV → Heap → Prop, K v h'.to → WOp P T ev o h.to K := by
  have rest : xrest h k (xo T ev h.get h.n o.op) = some b → ∃ v h', h'.wf ∧ k v h' = some b ∧ ∀ K : AV → Heap → Prop, K v h'.to → WOp P T ev o h.to K := fun e => by
    unfold xrest at e
    split at e
    · rename_i v d hd
      rw [AV.f3_eq] at e
      obtain ⟨h', w', e1, e2⟩ := HD.fap_some hw e
      refine ⟨v, h', w', e2, fun K hK => xo_sound (d := d) ?_ (by rw [← e1]; exact hK)⟩
      have : h.get = fun b => h.to[b]? := funext (XH.get_eq hw)
      rw [XH.len hw, ← this]; exact hd
    · cases e
  unfold xop at e
  split at e
  · rename_i f args ts ho
    unfold xcal at e
    split at e
    · rename_i g first caps hf
      rw [f3s_eq] at e
      split at e
      · rename_i v h' hv
        obtain ⟨w', hcv⟩ := hc _ _ _ _ _ hw hv
        refine ⟨_, _, w', e, fun K hK => ?_⟩
        unfold WOp
        rw [ho]
        simp only
        unfold WCall
        simp only [hf]
        show WC P g _ _ K
        exact hcv.mono fun r1 H1 ⟨h1, h2⟩ => by rw [h1, h2]; exact hK
      · cases e
    · cases e
  · exact rest e
noncomputable def xput {β : Type} (n : Nat) (d : Option Tmp) (v : AV) (l : List AV) (k : List AV → Option β) : Option β := match d with
  | none => k l
  | some d => match Nat.blt d n with
    | true => fset l d v k
    | false => none
theorem toFr_set {l : List AV} {d : Nat} (h : d < l.length) (v : AV) : toFr (l.set d v) = (toFr l).put (some d) v := by
  funext t
  simp only [toFr, Fr.put]
  by_cases e : t = d
  · subst e; rw [if_pos rfl]; simp [List.getD, h]
  · rw [if_neg e]; simp [List.getD, List.getElem?_set, Ne.symm e]
theorem xput_sound {β : Type} {n : Nat} {o : Oper} {v : AV} {l : List AV} {k : List AV → Option β} {b : β} (hl : l.length = n) (h : xput n o.dst v l k = some b) :
    dstOk n o ∧ ∃ l', l'.length = n ∧ toFr l' = (toFr l).put o.dst v ∧ k l' = some b := by
  unfold xput at h
  unfold dstOk
  cases hd : o.dst with
  | none => rw [hd] at h; exact ⟨trivial, l, hl, rfl, h⟩
  | some d =>
    rw [hd] at h
    simp only at h
    split at h
    · rename_i hb
      have hlt : d < n := by simp only [Nat.blt_eq] at hb; exact hb
      rw [fset_eq] at h
      exact ⟨hlt, _, by simpa using hl, toFr_set (by rw [hl]; exact hlt) v, h⟩
    · cases h
noncomputable def xOp1 {β : Type} (call : XCall) (T : TypeId → Option TD) (n : Nat) (l : List AV) (h : XH) (k : List AV → XH → Option β) (w : Option Bool) (o : Oper) : Option β := match w with
  | some true => xop call T (evL l) o.op h fun v h' => xput n o.dst v l fun l' => k l' h'
  | some false => xput n o.dst (.tup []) l fun l' => k l' h
  | none => none
noncomputable def xOps (call : XCall) (T : TypeId → Option TD) (n : Nat) (all : List Oper) (rest : List Oper) : List AV → XH → Option (List AV × XH) :=
  List.rec (motive := fun _ => List AV → XH → Option (List AV × XH)) (fun l h => some (l, h)) (fun o _ ih l h => xOp1 call T n l h ih (wantd all (lget l) o) o) rest
theorem xOps_sound {call : XCall} (hc : CallOk P call) {n : Nat} {all : List Oper} : ∀ (rest : List Oper) (l : List AV) (h : XH) (l' : List AV) (h' : XH), xOps call T n all rest l h = some (l', h') → l.length = n → h.wf →
    l'.length = n ∧ h'.wf ∧ ∀ Q : Fr → Heap → Prop, Q (toFr l') h'.to → WOps P T n all rest (toFr l) h.to Q
  | [], l, h, l', h', e, hl, hw => by
    have e' : some (l, h) = some (l', h') := e
    simp only [Option.some.injEq, Prod.mk.injEq] at e'
    obtain ⟨rfl, rfl⟩ := e'
    exact ⟨hl, hw, fun Q hQ => hQ⟩
  | o :: rest, l, h, l', h', e, hl, hw => by
    have e' : xOp1 call T n l h (xOps call T n all rest) (wantd all (lget l) o) o = some (l', h') := e
    rw [lget_eq] at e'
    unfold xOp1 at e'
    split at e'
    · rename_i hwt
      obtain ⟨v, h1, w1, h2, h3⟩ := xop_sound hc hw e'
      obtain ⟨hd, l1, hl1, e1, h4⟩ := xput_sound hl h2
      obtain ⟨hl', w', ih⟩ := xOps_sound hc rest l1 h1 l' h' h4 hl1 w1
      refine ⟨hl', w', fun Q hQ => ?_⟩
      unfold WOps
      refine ⟨hd, ?_⟩
      rw [hwt, ← evL_eq]
      refine h3 _ ?_
      show WOps P T n all rest ((toFr l).put o.dst v) h1.to Q
      rw [← e1]; exact ih Q hQ
    · rename_i hwt
      obtain ⟨hd, l1, hl1, e1, h4⟩ := xput_sound hl e'
      obtain ⟨hl', w', ih⟩ := xOps_sound hc rest l1 h l' h' h4 hl1 hw
      refine ⟨hl', w', fun Q hQ => ?_⟩
      unfold WOps
      refine ⟨hd, ?_⟩
      rw [hwt]
      show WOps P T n all rest ((toFr l).put o.dst (.tup [])) h.to Q
      rw [← e1]; exact ih Q hQ
    · cases e'
/-- A region that draws its order, by its plan. -/
noncomputable def xDr (call : XCall) (T : TypeId → Option TD) (n : Nat) (all : List Oper) : List (Nat × Option (List Bool)) → List RC → List AV → XH → Option (List AV × XH)
  | [], _, l, h => some (l, h)
  | (i, f) :: rest, rs, l, h => match oget all i with
    | none => none
    | some o => match wantd all (lget l) o with
      | some true => xop call T (evL l) o.op h fun v h' => match f with
        | none => xput n o.dst v l fun l' => xDr call T n all rest (mkRC T (evL l) v h.n h'.to o.op :: rs) l' h'
        | some fl => match keepAllB T fl rs h'.to with
          | true => xput n o.dst v l fun l' => xDr call T n all rest (.pure :: rs) l' h'
          | false => none
      | some false => xput n o.dst (.tup []) l fun l' => xDr call T n all rest (.pure :: rs) l' h
      | none => none
theorem xDr_sound {call : XCall} (hc : CallOk P call) {n : Nat} {all : List Oper} : ∀ (rest : List (Nat × Option (List Bool))) (rs : List RC) (l : List AV) (h : XH) (l' : List AV) (h' : XH), xDr call T n all rest rs l h = some (l', h') → l.length = n → h.wf →
    l'.length = n ∧ h'.wf ∧ ∀ Q : Fr → Heap → Prop, Q (toFr l') h'.to → WDr P T n all rest rs (toFr l) h.to Q
  | [], rs, l, h, l', h', e, hl, hw => by
    simp only [xDr, Option.some.injEq, Prod.mk.injEq] at e
    obtain ⟨rfl, rfl⟩ := e
    exact ⟨hl, hw, fun Q hQ => hQ⟩
  | (i, f) :: rest, rs, l, h, l', h', e, hl, hw => by
    unfold xDr at e
    rw [oget_eq, lget_eq] at e
    split at e
    · cases e
    rename_i o ho
    split at e
    · rename_i hwt
      obtain ⟨v, h1, w1, e1, h2⟩ := xop_sound hc hw e
      split at e1
      · obtain ⟨hd, l1, hl1, e2, h3⟩ := xput_sound hl e1
        obtain ⟨hl', w', ih⟩ := xDr_sound hc rest _ l1 h1 l' h' h3 hl1 w1
        refine ⟨hl', w', fun Q hQ => ?_⟩
        rw [WDr_cons, ho, WDo_none]
        refine ⟨hd, ?_⟩
        rw [hwt, ← evL_eq]
        refine h2 _ ?_
        rw [drK_eq, ← e2, XH.len hw, ← evL_eq]; exact ih Q hQ
      · rename_i fl
        split at e1
        · rename_i hk
          obtain ⟨hd, l1, hl1, e2, h3⟩ := xput_sound hl e1
          obtain ⟨hl', w', ih⟩ := xDr_sound hc rest _ l1 h1 l' h' h3 hl1 w1
          refine ⟨hl', w', fun Q hQ => ?_⟩
          rw [WDr_cons, ho, WDo_some]
          refine ⟨hd, ?_⟩
          rw [hwt, ← evL_eq]
          refine h2 _ ?_
          rw [efK_eq, ← e2]; exact ⟨keepAllB_ok hk, ih Q hQ⟩
        · cases e1
    · rename_i hwt
      obtain ⟨hd, l1, hl1, e2, h3⟩ := xput_sound hl e
      obtain ⟨hl', w', ih⟩ := xDr_sound hc rest _ l1 h l' h' h3 hl1 hw
      refine ⟨hl', w', fun Q hQ => ?_⟩
      cases f with
      | none =>
        rw [WDr_cons, ho, WDo_none]
        refine ⟨hd, ?_⟩
        rw [hwt]
        show drU _ _ _ _ _ _
        rw [drU_eq, ← e2]; exact ih Q hQ
      | some fl =>
        rw [WDr_cons, ho, WDo_some]
        refine ⟨hd, ?_⟩
        rw [hwt]
        show drU _ _ _ _ _ _
        rw [drU_eq, ← e2]; exact ih Q hQ
    · cases e

/-! ### Code -/
abbrev DRows := Nat → List (Nat × Option (List Bool))
def drawsOk (R : DRows) : Code → Bool
  | .region id ops true => drawOk ops.toList (R id)
  | .seq a b => drawsOk R a && drawsOk R b
  | .cond _ a b => drawsOk R a && drawsOk R b
  | .block _ c => drawsOk R c
  | .loop c => drawsOk R c
  | _ => true
def xnor {β : Type} (r : Option (Exit × List AV × XH)) (k : List AV → XH → Option (Exit × List AV × XH)) (_ : β) : Option (Exit × List AV × XH) := match r with
  | some (.normal, l', h') => k l' h'
  | r => r
def xblk (id : Nat) (r : Option (Exit × List AV × XH)) : Option (Exit × List AV × XH) := match r with
  | some (.exit id', l', h') => if id' = id then some (.normal, l', h') else some (.exit id', l', h')
  | r => r
def xif (v : AV) (a b : Option (Exit × List AV × XH)) : Option (Exit × List AV × XH) := match v with
  | .bool true => a
  | .bool false => b
  | _ => none
def xreg (r : Option (List AV × XH)) : Option (Exit × List AV × XH) := match r with
  | some (l', h') => some (.normal, l', h')
  | none => none
noncomputable def xc (call : XCall) (T : TypeId → Option TD) (n : Nat) (R : DRows) : Nat → Code → List AV → XH → Option (Exit × List AV × XH)
  | 0, _, _, _ => none
  | k + 1, c, l, h => match c with
    | .skip => some (.normal, l, h)
    | .region _ ops false => xreg (xOps call T n ops.toList ops.toList l h)
    | .region id ops true => xreg (xDr call T n ops.toList (R id) [] l h)
    | .seq a b => xnor (xc call T n R k a l h) (xc call T n R k b) ()
    | .cond x a b => xif (evL l x) (xc call T n R k a l h) (xc call T n R k b l h)
    | .block id c => xblk id (xc call T n R k c l h)
    | .exit id => some (.exit id, l, h)
    | .ret => some (.ret, l, h)
    | .loop c => xnor (xc call T n R k c l h) (xc call T n R k (.loop c)) ()
    | _ => none
theorem xc_sound (hT : TOk P T) (hm : P.follows .mixedOrders = true) {call : XCall} (hc : CallOk P call) {n : Nat} {R : DRows} : ∀ (k : Nat) (c : Code) (l : List AV) (h : XH) (e : Exit) (l' : List AV) (h' : XH), drawsOk R c = true → xc call T n R k c l h = some (e, l', h') → l.length = n → h.wf →
    (l'.length = n ∧ h'.wf) ∧ ∀ Q : Exit → Fr → Heap → Prop, Q e (toFr l') h'.to → WX P n c (toFr l) h.to Q
  | 0, _, _, _, _, _, _, _, h, _, _ => by cases h
  | k + 1, c, l, H, e, l', H', hd, h, hl, hw => by
    unfold xc at h
    split at h
    · simp only [Option.some.injEq, Prod.mk.injEq] at h
      obtain ⟨rfl, rfl, rfl⟩ := h
      exact ⟨⟨hl, hw⟩, fun Q hQ => WX_skip hQ⟩
    · unfold xreg at h
      split at h
      · rename_i l1 H1 h1
        simp only [Option.some.injEq, Prod.mk.injEq] at h
        obtain ⟨rfl, rfl, rfl⟩ := h
        obtain ⟨h2, w2, h3⟩ := xOps_sound hc _ _ _ _ _ h1 hl hw
        exact ⟨⟨h2, w2⟩, fun Q hQ => WX_region hT (h3 _ hQ)⟩
      · cases h
    · unfold xreg at h
      split at h
      · rename_i l1 H1 h1
        simp only [Option.some.injEq, Prod.mk.injEq] at h
        obtain ⟨rfl, rfl, rfl⟩ := h
        obtain ⟨h2, w2, h3⟩ := xDr_sound hc _ _ _ _ _ _ h1 hl hw
        exact ⟨⟨h2, w2⟩, fun Q hQ => WX_rows hT hm _ hd (h3 _ hQ)⟩
      · cases h
    · rename_i a b
      simp only [drawsOk, Bool.and_eq_true] at hd
      unfold xnor at h
      split at h
      · rename_i l1 H1 h1
        obtain ⟨h2, h3⟩ := xc_sound hT hm hc k a l H _ _ _ hd.1 h1 hl hw
        obtain ⟨h4, h5⟩ := xc_sound hT hm hc k b l1 H1 _ _ _ hd.2 h h2.1 h2.2
        exact ⟨h4, fun Q hQ => WX_seq (h3 _ (h5 Q hQ))⟩
      · rename_i hn
        obtain ⟨h2, h3⟩ := xc_sound hT hm hc k a l H _ _ _ hd.1 h hl hw
        refine ⟨h2, fun Q hQ => WX_seq (h3 _ ?_)⟩
        cases e with
        | normal => exact absurd h (hn _ _)
        | _ => exact hQ
    · rename_i x a b
      simp only [drawsOk, Bool.and_eq_true] at hd
      rw [evL_eq] at h
      unfold xif at h
      split at h
      · rename_i hx
        obtain ⟨h2, h3⟩ := xc_sound hT hm hc k a l H _ _ _ hd.1 h hl hw
        exact ⟨h2, fun Q hQ => WX_cond (by rw [hx, IfB_true]; exact h3 Q hQ)⟩
      · rename_i hx
        obtain ⟨h2, h3⟩ := xc_sound hT hm hc k b l H _ _ _ hd.2 h hl hw
        exact ⟨h2, fun Q hQ => WX_cond (by rw [hx, IfB_false]; exact h3 Q hQ)⟩
      · cases h
    · rename_i id a
      simp only [drawsOk] at hd
      unfold xblk at h
      split at h
      · rename_i id' l1 H1 h1
        obtain ⟨h2, h3⟩ := xc_sound hT hm hc k a l H _ _ _ hd h1 hl hw
        split at h
        · rename_i he
          simp only [Option.some.injEq, Prod.mk.injEq] at h
          obtain ⟨rfl, rfl, rfl⟩ := h
          exact ⟨h2, fun Q hQ => WX_block (h3 _ (by rw [XBlock_eq, if_pos he]; exact hQ))⟩
        · rename_i he
          simp only [Option.some.injEq, Prod.mk.injEq] at h
          obtain ⟨rfl, rfl, rfl⟩ := h
          exact ⟨h2, fun Q hQ => WX_block (h3 _ (by rw [XBlock_eq, if_neg he]; exact hQ))⟩
      · rename_i hn
        obtain ⟨h2, h3⟩ := xc_sound hT hm hc k a l H _ _ _ hd h hl hw
        refine ⟨h2, fun Q hQ => WX_block (h3 _ ?_)⟩
        cases e with
        | exit id' => exact absurd h (hn _ _ _)
        | _ => exact hQ
    · simp only [Option.some.injEq, Prod.mk.injEq] at h
      obtain ⟨rfl, rfl, rfl⟩ := h
      exact ⟨⟨hl, hw⟩, fun Q hQ => WX_exit hQ⟩
    · simp only [Option.some.injEq, Prod.mk.injEq] at h
      obtain ⟨rfl, rfl, rfl⟩ := h
      exact ⟨⟨hl, hw⟩, fun Q hQ => WX_ret hQ⟩
    · rename_i a
      have hd' : drawsOk R a = true := hd
      have h0 : xc call T n R (k + 1) (.loop a) l H = some (e, l', H') := by unfold xc; exact h
      have main : ∀ Q : Exit → Fr → Heap → Prop, (l'.length = n ∧ H'.wf → Q e (toFr l') H'.to) → WX P n (.loop a) (toFr l) H.to Q := fun Q hQ => by
        refine WX_loop (fun m fr G => m ≤ k + 1 ∧ ∃ l0 h0, fr = toFr l0 ∧ G = XH.to h0 ∧ l0.length = n ∧ XH.wf h0 ∧ xc call T n R m (.loop a) l0 h0 = some (e, l', H')) (k + 1) ⟨Nat.le_refl _, l, H, rfl, rfl, hl, hw, h0⟩ ?_
        rintro m fr G ⟨hm', l0, g0, rfl, rfl, hl0, hw0, hx⟩
        cases m with
        | zero => cases hx
        | succ m =>
          unfold xc at hx
          simp only [xnor] at hx
          split at hx
          · rename_i l1 H1 h1
            obtain ⟨h2, h3⟩ := xc_sound hT hm hc m a l0 g0 _ _ _ hd' h1 hl0 hw0
            exact h3 _ ⟨m, by omega, by omega, l1, H1, rfl, rfl, h2.1, h2.2, hx⟩
          · rename_i hn
            obtain ⟨h2, h3⟩ := xc_sound hT hm hc m a l0 g0 _ _ _ hd' hx hl0 hw0
            refine h3 _ ?_
            cases e with
            | normal => exact absurd hx (hn _ _)
            | _ => exact hQ h2
      have len : l'.length = n ∧ H'.wf := by
        clear main
        unfold xnor at h
        split at h
        · rename_i l1 H1 h1
          obtain ⟨h2, _⟩ := xc_sound hT hm hc k a l H _ _ _ hd' h1 hl hw
          exact (xc_sound hT hm hc k (.loop a) l1 H1 _ _ _ hd h h2.1 h2.2).1
        · exact (xc_sound hT hm hc k a l H _ _ _ hd' h hl hw).1
      exact ⟨len, fun Q hQ => main Q fun _ => hQ⟩
    · cases h
termination_by k => k

/-! ### Tables -/
inductive TT (α : Type) where
  | nil
  | leaf (i : Nat) (v : α)
  | node (k : Nat) (l r : TT α)
noncomputable def TT.get {α : Type} (t : TT α) (n : Nat) : Option α :=
  TT.rec (motive := fun _ => Option α) none (fun i v => Bool.rec (motive := fun _ => Option α) none (some v) (Nat.beq i n)) (fun k _ _ il ir => Bool.rec (motive := fun _ => Option α) ir il (Nat.blt n k)) t
def TT.Ok {α : Type} (Q : Nat → α → Prop) : TT α → Prop
  | .nil => True
  | .leaf i v => Q i v
  | .node _ l r => TT.Ok Q l ∧ TT.Ok Q r
theorem TT.Ok.get {α : Type} {Q : Nat → α → Prop} : ∀ {t : TT α}, TT.Ok Q t → ∀ {n : Nat} {v : α}, t.get n = some v → Q n v
  | .nil, _, n, v, h => by cases h
  | .leaf i w, h, n, v, e => by
    have e' : Bool.rec (motive := fun _ => Option α) none (some w) (Nat.beq i n) = some v := e
    cases hb : Nat.beq i n with
    | false => rw [hb] at e'; cases e'
    | true => rw [hb] at e'; cases e'; have := Nat.eq_of_beq_eq_true hb; subst this; exact h
  | .node k l r, h, n, v, e => by
    have e' : Bool.rec (motive := fun _ => Option α) (r.get n) (l.get n) (Nat.blt n k) = some v := e
    cases hb : Nat.blt n k with
    | false => rw [hb] at e'; exact TT.Ok.get h.2 e'
    | true => rw [hb] at e'; exact TT.Ok.get h.1 e'
/-- A function, ready to be carried out. -/
structure XF where
  c : Code
  n : Nat
  res : List ResultVar
  R : DRows
def XFOk (P : Program) (f : FuncId) (x : XF) : Prop := ∃ fn, P.funcs[f]? = some fn ∧ fn.name ≠ "runtime.NumGoroutine" ∧ fn.body = some x.c ∧ fn.ntmps = x.n ∧ fn.results.toList = x.res ∧ drawsOk x.R x.c = true
theorem XFOk.mk {P : Program} {f : FuncId} {fn : Func} {x : XF} (h1 : P.funcs[f]? = some fn) (h2 : decide (fn.name = "runtime.NumGoroutine") = false) (h3 : fn.body = some x.c) (h4 : fn.ntmps = x.n) (h5 : fn.results.toList = x.res) (h6 : drawsOk x.R x.c = true) : XFOk P f x :=
  ⟨fn, h1, of_decide_eq_false h2, h3, h4, h5, h6⟩
/-- Results, the heap as a function. -/
def gres (T : TypeId → Option TD) (fr : Fr) (g : Nat → Option Blk) : List ResultVar → Option (List AV)
  | [] => some []
  | .tmp t :: l => (gres T fr g l).map (fr.get t :: ·)
  | .cell x t :: l => (gload T g t (fr.get x)).bind fun v => (gres T fr g l).map (v :: ·)
theorem gres_eq (T : TypeId → Option TD) (fr : Fr) (H : Heap) : ∀ l, gres T fr (fun b => H[b]?) l = ares T fr H l
  | [] => rfl
  | .tmp t :: l => by simp only [gres, ares, gres_eq T fr H l]
  | .cell x t :: l => by simp only [gres, ares, gload_eq, gres_eq T fr H l]
noncomputable def xfin (T : TypeId → Option TD) (rs : List ResultVar) (l : List AV) (h : XH) : Option (AV × XH) := match gres T (lget l) h.get rs with
  | some r => (resOf r).f3 fun v => some (v, h)
  | none => none
noncomputable def xout (T : TypeId → Option TD) (rs : List ResultVar) (r : Option (Exit × List AV × XH)) : Option (AV × XH) := match r with
  | some (.normal, l, h) => xfin T rs l h
  | some (.ret, l, h) => xfin T rs l h
  | _ => none
noncomputable def xrun (call : XCall) (T : TypeId → Option TD) (x : XF) (args : List AV) (h : XH) : Option (AV × XH) :=
  match Nat.ble args.length x.n with
  | true => fini (.tup []) (Nat.sub x.n args.length) args fun l => xout T x.res (xc call T x.n x.R 100000 x.c l h)
  | false => none
noncomputable def xC (T : TypeId → Option TD) (F : TT XF) : Nat → XCall
  | 0, _, _, _ => none
  | k + 1, f, args, h => match F.get f with
    | some x => xrun (xC T F k) T x args h
    | none => none
theorem toFr_init (args : List AV) (n : Nat) : toFr (args ++ List.replicate n (.tup [])) = Fr.init args := by
  funext t
  simp only [toFr, Fr.init, List.getD]
  by_cases h : t < args.length
  · rw [List.getElem?_append_left h]
  · rw [List.getElem?_append_right (by omega), List.getElem?_eq_none (l := args) (by omega)]
    rw [List.getElem?_replicate]; split <;> rfl
theorem xC_ok (hT : TOk P T) (hm : P.follows .mixedOrders = true) {F : TT XF} (hF : F.Ok (XFOk P)) : ∀ k, CallOk P (xC T F k)
  | 0 => fun f args h r h' _ e => by cases e
  | k + 1 => fun f args h r h' hw e => by
    unfold xC at e
    split at e
    · rename_i x hx
      obtain ⟨fn, hf, hname, hb, hn, hr, hd⟩ := hF.get hx
      unfold xrun at e
      split at e
      · rename_i hle
        have hle' : args.length ≤ x.n := by simpa [Nat.ble_eq] using hle
        rw [fini_eq] at e
        have hlen : (args ++ List.replicate (Nat.sub x.n args.length) (AV.tup [])).length = x.n := by
          rw [List.length_append, List.length_replicate]; show args.length + (x.n - args.length) = _; omega
        have fin : ∀ l1 h1, xfin T x.res l1 h1 = some (r, h') → h1.wf → h' = h1 ∧ ∃ l, ares T (toFr l1) h1.to x.res = some l ∧ resOf l = r := fun l1 h1 e hw1 => by
          unfold xfin at e
          have : h1.get = fun b => h1.to[b]? := funext (XH.get_eq hw1)
          rw [this, lget_eq, gres_eq] at e
          split at e
          · rename_i l hl
            rw [AV.f3_eq] at e
            simp only [Option.some.injEq, Prod.mk.injEq] at e
            exact ⟨e.2.symm, l, hl, e.1⟩
          · cases e
        unfold xout at e
        have main : ∀ ex l1 h1, (ex = .normal ∨ ex = .ret) → xc (xC T F k) T x.n x.R 100000 x.c (args ++ List.replicate (Nat.sub x.n args.length) (AV.tup [])) h = some (ex, l1, h1) → xfin T x.res l1 h1 = some (r, h') → h'.wf ∧ WC P f args h.to fun r1 H1 => r1 = r ∧ H1 = h'.to := fun ex l1 h1 hex hxc e => by
          obtain ⟨⟨h2, w2⟩, h3⟩ := xc_sound hT hm (xC_ok hT hm hF k) _ _ _ _ _ _ _ hd hxc hlen hw
          obtain ⟨rfl, l, hl, rfl⟩ := fin l1 h1 e w2
          refine ⟨w2, WC_of_body hT hf hb hname (by rw [hn]; exact hle') ?_⟩
          rw [← toFr_init args (Nat.sub x.n args.length), hn]
          refine h3 _ ?_
          rcases hex with rfl | rfl
          · rw [bodyK_normal, hr, hl]; exact ⟨rfl, rfl⟩
          · rw [bodyK_ret, hr, hl]; exact ⟨rfl, rfl⟩
        split at e
        · rename_i l1 h1 hx1; exact main _ _ _ (.inl rfl) hx1 e
        · rename_i l1 h1 hx1; exact main _ _ _ (.inr rfl) hx1 e
        · cases e
      · cases e
    · cases e
/-- Is that the answer? -/
def xTrue : Option (AV × XH) → Bool
  | some (.bool b, _) => b
  | _ => false
theorem xC_true (hT : TOk P T) (hm : P.follows .mixedOrders = true) {F : TT XF} (hF : F.Ok (XFOk P)) {k : Nat} {f : FuncId} (h : xTrue (xC T F k f [] ⟨0, []⟩) = true) : WC P f [] [] fun r _ => r = .bool true := by
  cases hx : xC T F k f [] ⟨0, []⟩ with
  | none => rw [hx] at h; cases h
  | some p =>
    obtain ⟨v, H'⟩ := p
    rw [hx] at h
    cases v <;> simp only [xTrue, Bool.false_eq_true] at h
    rename_i b
    subst h
    exact ((xC_ok hT hm hF k f [] ⟨0, []⟩ _ _ rfl hx).2).mono fun r1 H1 ⟨h1, _⟩ => h1
/-- What takes nothing and tells nothing of memory leaves all memory as it was. -/
theorem WC_closed {f : FuncId} {b : Bool} (h : WC P f [] [] fun r _ => r = .bool b) (H : Heap) : WC P f [] H fun r H' => r = .bool b ∧ H' = H := by
  refine ⟨h.1, fun base φ w vs hR hv => ?_⟩
  refine (h.2 w.heap.size ⟨fun _ => none, fun _ => none⟩ w vs (Rel.empty w) ?_).mono ?_
  · obtain rfl := hv.nil_left; exact RVs.nil _
  · rintro e w' ⟨v, r, H', φ', rfl, k1, k2, k3, rfl⟩
    cases k1
    have hb : Below w.heap.size w w' := k3.below
    have hsz := hb.size
    have hrow : ∀ k, k < w.heap.size → w'.heap[k]? = w.heap[k]? := fun k hk => hb.block k hk
    exact ⟨_, .bool b, H, φ, rfl, .bool b, hR.grow hrow hsz, ⟨fun _ _ => rfl, Nat.le_refl _, hb.mono hR.size, fun _ _ h => h, fun _ _ h => .inl h⟩, rfl, rfl⟩
end
end Go.Proofs.PI
