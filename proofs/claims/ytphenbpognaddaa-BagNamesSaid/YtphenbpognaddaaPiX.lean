import Derived.Test.YtphenbpognaddaaPiR
/-! PI, part X: calls without arguments that are open: they are carried out by the kernel. -/
set_option linter.unusedVariables false
set_option linter.unusedSimpArgs false
namespace Go.Proofs.PI
open Go.RowKit

/-! ### Equality, as it is computed -/
def AV.beqN : Nat → AV → AV → Bool
  | 0, _, _ => false
  | n + 1, x, y => match x, y with
    | .int k a, .int l b => decide (k = l) && decide (a = b)
    | .bool a, .bool b => a == b
    | .str a, .str b => decide (a = b)
    | .nilp, .nilp => true
    | .ptr a b, .ptr c d => decide (a = c) && decide (b = d)
    | .nils, .nils => true
    | .emp, .emp => true
    | .sl a b c d, .sl e f g h => decide (a = e) && decide (b = f) && decide (c = g) && decide (d = h)
    | .agg l, .agg m => l.length == m.length && (l.zip m).all fun p => AV.beqN n p.1 p.2
    | .tup l, .tup m => l.length == m.length && (l.zip m).all fun p => AV.beqN n p.1 p.2
    | .fn f a b, .fn g c d => decide (f = g) && (a.length == c.length && (a.zip c).all fun p => AV.beqN n p.1 p.2) && (b.length == d.length && (b.zip d).all fun p => AV.beqN n p.1 p.2)
    | .nilf, .nilf => true
    | _, _ => false
theorem zip_eq {n : Nat} (ih : ∀ x y, AV.beqN n x y = true → x = y) : ∀ (l m : List AV), l.length = m.length → ((l.zip m).all fun p => AV.beqN n p.1 p.2) = true → l = m
  | [], [], _, _ => rfl
  | a :: l, b :: m, h, hz => by
    simp only [List.zip_cons_cons, List.all_cons, Bool.and_eq_true] at hz
    rw [ih a b hz.1, zip_eq ih l m (by simpa using h) hz.2]
theorem AV.beqN_eq : ∀ (n : Nat) (x y : AV), AV.beqN n x y = true → x = y
  | 0, _, _, h => by cases h
  | n + 1, x, y, h => by
    have hz := fun l m h1 h2 => zip_eq (AV.beqN_eq n) l m h1 h2
    cases x <;> cases y <;> simp only [AV.beqN, Bool.and_eq_true, decide_eq_true_eq, beq_iff_eq, reduceCtorEq, Bool.false_eq_true] at h
    case fn.fn => rw [hz _ _ h.1.2.1 h.1.2.2, hz _ _ h.2.1 h.2.2, h.1.1]
    case agg.agg => rw [hz _ _ h.1 h.2]
    case tup.tup => rw [hz _ _ h.1 h.2]
    all_goals first | rfl | (simp only [h]; done)
def Blk.beq (B C : Blk) : Bool := (B.cells.length == C.cells.length && (B.cells.zip C.cells).all fun p => AV.beqN 2 p.1 p.2) && decide (B.esz = C.esz) && (match B.st, C.st with
  | .dead, .dead => true
  | .ro, .ro => true
  | .opn, .opn => true
  | .full, .full => true
  | _, _ => false)
theorem Blk.beq_eq {B C : Blk} (h : Blk.beq B C = true) : B = C := by
  obtain ⟨bc, be, bs⟩ := B; obtain ⟨cc, ce, cs⟩ := C
  simp only [Blk.beq, Bool.and_eq_true, beq_iff_eq, decide_eq_true_eq] at h
  obtain ⟨⟨⟨h1, h2⟩, h3⟩, h4⟩ := h
  have := zip_eq (AV.beqN_eq 2) _ _ h1 h2
  subst this; subst h3
  cases bs <;> cases cs <;> first | rfl | (simp at h4)
def RC.okB (T : TypeId → Option TD) (H : Heap) : RC → Bool
  | .pure => true
  | .load t p v => match aload T H t p with | some u => AV.beqN 3 u v | none => false
  | .slice t x lo hi mx v => match aslice T H t x lo hi mx with | some u => AV.beqN 3 u v | none => false
  | .bytes src dst x v => match abytesStr T H src dst x with | some u => AV.beqN 3 u v | none => false
  | .blk s H₀ => match H[s]?, H₀[s]? with | some B, some C => Blk.beq B C | _, _ => false
theorem RC.okB_ok {T : TypeId → Option TD} {H : Heap} {r : RC} (h : r.okB T H = true) : r.ok T H := by
  cases r <;> simp only [RC.okB] at h
  · trivial
  · split at h
    · rename_i u hu; show aload .. = _; rw [hu, AV.beqN_eq _ _ _ h]
    · cases h
  · split at h
    · rename_i u hu; show aslice .. = _; rw [hu, AV.beqN_eq _ _ _ h]
    · cases h
  · split at h
    · rename_i u hu; show abytesStr .. = _; rw [hu, AV.beqN_eq _ _ _ h]
    · cases h
  · split at h
    · rename_i B C h1 h2; show _ = _; rw [h1, h2, Blk.beq_eq h]
    · cases h
def keepAllB (T : TypeId → Option TD) : List Bool → List RC → Heap → Bool
  | false :: fl, r :: rs, H => r.okB T H && keepAllB T fl rs H
  | true :: fl, _ :: rs, H => keepAllB T fl rs H
  | _, _, _ => true
theorem keepAllB_ok {T : TypeId → Option TD} {H : Heap} : ∀ {fl : List Bool} {rs : List RC}, keepAllB T fl rs H = true → keepAll T fl rs H
  | [], _, _ => by unfold keepAll; trivial
  | false :: fl, [], _ => by unfold keepAll; trivial
  | true :: fl, [], _ => by unfold keepAll; trivial
  | false :: fl, r :: rs, h => by
    simp only [keepAllB, Bool.and_eq_true] at h
    exact ⟨RC.okB_ok h.1, keepAllB_ok h.2⟩
  | true :: fl, r :: rs, h => keepAllB_ok (fl := fl) (rs := rs) h

/-! ### Values made whole before they are handed on -/
section
variable {α : Type}
def fnat (n : Nat) (k : Nat → α) : α := match n with
  | 0 => k 0
  | .succ m => k (.succ m)
theorem fnat_eq (n : Nat) (k : Nat → α) : fnat n k = k n := by cases n <;> rfl
def fint (z : Int) (k : Int → α) : α := match z with
  | .ofNat m => fnat m fun m => k (.ofNat m)
  | .negSucc m => fnat m fun m => k (.negSucc m)
theorem fint_eq (z : Int) (k : Int → α) : fint z k = k z := by cases z <;> simp only [fint, fnat_eq]
def fbytes : List UInt8 → (List UInt8 → α) → α
  | [], k => k []
  | b :: l, k => fnat b.toNat fun n => fbytes l fun l' => k (UInt8.ofNat n :: l')
theorem fbytes_eq : ∀ (l : List UInt8) (k : List UInt8 → α), fbytes l k = k l
  | [], k => rfl
  | b :: l, k => by simp only [fbytes, fnat_eq, fbytes_eq l, UInt8.ofNat_toNat]
def fopt (o : Option Nat) (k : Option Nat → α) : α := match o with
  | none => k none
  | some n => fnat n fun n => k (some n)
theorem fopt_eq (o : Option Nat) (k : Option Nat → α) : fopt o k = k o := by cases o <;> simp only [fopt, fnat_eq]
def fbool (b : Bool) (k : Bool → α) : α := match b with
  | true => k true
  | false => k false
theorem fbool_eq (b : Bool) (k : Bool → α) : fbool b k = k b := by cases b <;> rfl
def AV.f1 (v : AV) (c : AV → α) : α := match v with
  | .int k n => fint n fun n => c (.int k n)
  | .bool b => fbool b fun b => c (.bool b)
  | .str s => fbytes s fun s => c (.str s)
  | .ptr b o => fnat b fun b => fnat o fun o => c (.ptr b o)
  | .sl b o n cap => fnat b fun b => fnat o fun o => fnat n fun n => fopt cap fun cap => c (.sl b o n cap)
  | v => c v
theorem AV.f1_eq (v : AV) (c : AV → α) : v.f1 c = c v := by cases v <;> simp only [AV.f1, fint_eq, fbool_eq, fbytes_eq, fnat_eq, fopt_eq]
def f1s : List AV → (List AV → α) → α
  | [], k => k []
  | a :: l, k => a.f1 fun a => f1s l fun l => k (a :: l)
theorem f1s_eq : ∀ (l : List AV) (k : List AV → α), f1s l k = k l
  | [], k => rfl
  | a :: l, k => by simp only [f1s, AV.f1_eq, f1s_eq l]
def AV.f2 (v : AV) (c : AV → α) : α := match v with
  | .agg l => f1s l fun l => c (.agg l)
  | v => v.f1 c
theorem AV.f2_eq (v : AV) (c : AV → α) : v.f2 c = c v := by cases v <;> simp only [AV.f2, AV.f1_eq, f1s_eq]
def f2s : List AV → (List AV → α) → α
  | [], k => k []
  | a :: l, k => a.f2 fun a => f2s l fun l => k (a :: l)
theorem f2s_eq : ∀ (l : List AV) (k : List AV → α), f2s l k = k l
  | [], k => rfl
  | a :: l, k => by simp only [f2s, AV.f2_eq, f2s_eq l]
def AV.f3 (v : AV) (c : AV → α) : α := match v with
  | .tup l => f2s l fun l => c (.tup l)
  | .fn f a b => fnat f fun f => f2s a fun a => f2s b fun b => c (.fn f a b)
  | v => v.f2 c
theorem AV.f3_eq (v : AV) (c : AV → α) : v.f3 c = c v := by cases v <;> simp only [AV.f3, AV.f2_eq, f2s_eq, fnat_eq]
def f3s : List AV → (List AV → α) → α
  | [], k => k []
  | a :: l, k => a.f3 fun a => f3s l fun l => k (a :: l)
theorem f3s_eq : ∀ (l : List AV) (k : List AV → α), f3s l k = k l
  | [], k => rfl
  | a :: l, k => by simp only [f3s, AV.f3_eq, f3s_eq l]
def fset {β : Type} : List β → Nat → β → (List β → α) → α
  | [], _, _, k => k []
  | _ :: l, 0, v, k => k (v :: l)
  | a :: l, .succ d, v, k => fset l d v fun l' => k (a :: l')
theorem fset_eq {β : Type} : ∀ (l : List β) (d : Nat) (v : β) (k : List β → α), fset l d v k = k (l.set d v)
  | [], _, _, k => rfl
  | _ :: l, 0, v, k => rfl
  | a :: l, .succ d, v, k => by simp only [fset, fset_eq l, List.set_cons_succ]
def fapp {β : Type} : List β → β → (List β → α) → α
  | [], v, k => k [v]
  | a :: l, v, k => fapp l v fun l' => k (a :: l')
theorem fapp_eq {β : Type} : ∀ (l : List β) (v : β) (k : List β → α), fapp l v k = k (l ++ [v])
  | [], _, k => rfl
  | a :: l, v, k => by simp only [fapp, fapp_eq l, List.cons_append]
def fblk (B : Blk) (k : Blk → α) : α := f1s B.cells fun cs => fnat B.esz fun e => match B.st with
  | .dead => k ⟨cs, e, .dead⟩
  | .ro => k ⟨cs, e, .ro⟩
  | .opn => k ⟨cs, e, .opn⟩
  | .full => k ⟨cs, e, .full⟩
theorem fblk_eq (B : Blk) (k : Blk → α) : fblk B k = k B := by
  obtain ⟨cs, e, s⟩ := B
  simp only [fblk, f1s_eq, fnat_eq]
  cases s <;> rfl
end

/-! ### What an operation does to the heap -/
inductive HD where
  | same
  | set (b : Nat) (B : Blk)
  | snoc (B : Blk)
  | two (b : Nat) (B C : Blk)
def HD.ap (H : Heap) : HD → Heap
  | .same => H
  | .set b B => List.set H b B
  | .snoc B => H ++ [B]
  | .two b B C => List.set H b B ++ [C]
def HD.fap {α : Type} (H : Heap) (k : Heap → α) : HD → α
  | .same => k H
  | .set b B => fblk B fun B => fset H b B k
  | .snoc B => fblk B fun B => fapp H B k
  | .two b B C => fblk B fun B => fblk C fun C => fset H b B fun H => fapp H C k
def astoreD (T : TypeId → Option TD) (H : Heap) (t : TypeId) (x v : AV) : Option (Nat × Blk) :=
  match x, asize T t with
  | .ptr b o, some n => match H[b]? with
    | some B => if B.st.own = true ∧ v.solid = true ∧ v.cells.length = n ∧ o + v.cells.length ≤ B.cells.length then some (b, ⟨wr B.cells o v.cells, B.esz, B.st⟩) else none
    | none => none
  | _, _ => none
theorem astoreD_eq {T : TypeId → Option TD} {H : Heap} {t : TypeId} {x v : AV} {p : Nat × Blk} (h : astoreD T H t x v = some p) : astore T H t x v = some (List.set H p.1 p.2) := by
  unfold astoreD at h
  split at h
  · rename_i b o n hn
    split at h
    · rename_i B hB
      split at h
      · rename_i hc
        simp only [Option.some.injEq] at h; subst h
        simp only [astore, hn, hB, if_pos hc]
      · cases h
    · cases h
  · cases h
def aappendD (T : TypeId → Option TD) (H : Heap) (t tx : TypeId) (s x : AV) : Option (AV × HD) :=
  match asliceElem T t with
  | some (e, sz) => match azero T e, T e, asrc T H tx x sz with
    | some z, some d, some (k, xs) => match s with
      | .nils => if k = 0 then some (.nils, .same) else if k * d.bytes ≤ 140737488355328 ∧ k ≤ 140737488355328 then some (.sl H.length 0 k none, .snoc ⟨xs, sz, .opn⟩) else none
      | .emp => if k = 0 then some (.emp, .same) else none
      | .sl b o len cap => if k = 0 then some (.sl b o len cap, .same) else match H[b]? with
        | some B =>
          if roomFor B o len k sz cap = true then some (.sl b o (len + k) cap, .set b ⟨wr B.cells (o + len * sz) xs, B.esz, B.st⟩)
          else if (len + k) * d.bytes ≤ 140737488355328 ∧ len + k ≤ 140737488355328 ∧ 0 < sz then
            match H.read b o (len * sz) with
            | some old =>
              if noRoomFor B o len k sz cap = true then some (.sl H.length 0 (len + k) none, .snoc ⟨old ++ xs, sz, .opn⟩)
              else if B.st.own = true ∧ B.esz = sz ∧ cap = none then some (.sl H.length 0 (len + k) none, .two b ⟨B.cells, B.esz, .dead⟩ ⟨old ++ xs, sz, .opn⟩)
              else none
            | none => none
          else none
        | none => none
      | _ => none
    | _, _, _ => none
  | none => none
theorem aappendD_eq {T : TypeId → Option TD} {H : Heap} {t tx : TypeId} {s x v : AV} {d : HD} (h : aappendD T H t tx s x = some (v, d)) : aappend T H t tx s x = some (v, d.ap H) := by
  unfold aappendD at h
  unfold aappend
  repeat' split at h
  all_goals first
    | (cases h; done)
    | (simp only [Option.some.injEq, Prod.mk.injEq] at h; obtain ⟨rfl, rfl⟩ := h; simp only [*, HD.ap, if_true, if_false, and_self, Bool.false_eq_true, not_false_eq_true]; done)
    | (simp only [Option.some.injEq, Prod.mk.injEq] at h; obtain ⟨rfl, rfl⟩ := h; rename_i hc; obtain ⟨c1, c2, rfl⟩ := hc; subst c2; simp only [*, HD.ap, if_true, if_false, and_self, Bool.false_eq_true, not_false_eq_true]; done)
    | skip
def xo (T : TypeId → Option TD) (ev : Operand → AV) (H : Heap) : Op → Option (AV × HD)
  | .store t x v => (astoreD T H t (ev x) (ev v)).map fun p => (.tup [], .set p.1 p.2)
  | .load t x => (aload T H t (ev x)).map fun v => (v, .same)
  | .slice t x lo hi mx => (aslice T H t (ev x) (lo.map ev) (hi.map ev) (mx.map ev)).map fun v => (v, .same)
  | .alloc e => (aalloc T ev (.alloc e)).map fun p => (p.2 H.length, .snoc p.1)
  | .box e x => (aalloc T ev (.box e x)).map fun p => (p.2 H.length, .snoc p.1)
  | .buildSlice t len parts => (aalloc T ev (.buildSlice t len parts)).map fun p => (p.2 H.length, .snoc p.1)
  | .makeSlice t l c => (aalloc T ev (.makeSlice t l c)).map fun p => (p.2 H.length, .snoc p.1)
  | .convert src dst x => match tk T src, tk T dst with
    | .slice _, .str => (abytesStr T H src dst (ev x)).map fun v => (v, .same)
    | .str, .slice _ => (aalloc T ev (.convert src dst x)).map fun p => (p.2 H.length, .snoc p.1)
    | _, _ => (aconv T src dst (ev x)).map fun v => (v, .same)
  | .call ⟨.value _, _, _⟩ => none
  | .call ⟨.builtin .append, args, ts⟩ => match args.toList, ts.toList with
    | [s, x], [t, tx] => aappendD T H t tx (ev s) (ev x)
    | _, _ => none
  | op => (apure T ev op).map fun v => (v, .same)
theorem HD.fap_eq {α : Type} (H : Heap) (k : Heap → α) (d : HD) : d.fap H k = k (d.ap H) := by
  cases d <;> simp only [HD.fap, HD.ap, fblk_eq, fset_eq, fapp_eq]
section
variable {P : Program} {T : TypeId → Option TD}
theorem xo_sound {ev : Operand → AV} {o : Oper} {H : Heap} {K : AV → Heap → Prop} {v : AV} {d : HD} (h : xo T ev H o.op = some (v, d)) (hK : K v (d.ap H)) : WOp P T ev o H K := by
  have pure : ∀ x : Option AV, x.map (fun v => (v, HD.same)) = some (v, d) → On1 x (atH K H) := fun x hx => by
    cases x with
    | none => cases hx
    | some u => simp only [Option.map_some, Option.some.injEq, Prod.mk.injEq] at hx; obtain ⟨rfl, rfl⟩ := hx; exact hK
  have new : ∀ x : Option (Blk × (Nat → AV)), x.map (fun p => (p.2 H.length, HD.snoc p.1)) = some (v, d) → OnB x (snocK K H) := fun x hx => by
    cases x with
    | none => cases hx
    | some u => simp only [Option.map_some, Option.some.injEq, Prod.mk.injEq] at hx; obtain ⟨rfl, rfl⟩ := hx; exact hK
  unfold WOp
  cases ho : o.op
  case store t x y =>
    rw [ho] at h
    simp only [xo] at h
    cases hs : astoreD T H t (ev x) (ev y) with
    | none => rw [hs] at h; cases h
    | some p =>
      rw [hs] at h
      simp only [Option.map_some, Option.some.injEq, Prod.mk.injEq] at h
      obtain ⟨rfl, rfl⟩ := h
      simp only
      rw [astoreD_eq hs]; exact hK
  case convert src dst x =>
    rw [ho] at h
    simp only [xo] at h
    simp only
    split at h
    · first | (simp only [*] at h ⊢; exact pure _ h) | (simp only [*] at h ⊢; done)
    · first | (simp only [*] at h ⊢; exact new _ h) | (simp only [*] at h ⊢; done)
    · split
      · simp_all
      · simp_all
      · exact pure _ h
  case call c =>
    rw [ho] at h
    obtain ⟨callee, args, ts⟩ := c
    simp only
    unfold WCall
    cases callee with
    | value f => cases h
    | builtin b =>
      cases b
      case append =>
        simp only [xo] at h
        simp only
        split at h
        · simp only [*]
          rw [aappendD_eq h]; exact hK
        · cases h
      all_goals exact pure _ (by rw [ho]; exact h)
    | _ => exact pure _ (by rw [ho]; exact h)
  all_goals rw [ho] at h; simp only [xo] at h; first | exact pure _ h | exact new _ h

/-! ### Regions -/
def toFr (l : List AV) : Fr := fun t => l.getD t (.tup [])
abbrev XCall := FuncId → List AV → Heap → Option (AV × Heap)
def CallOk (P : Program) (call : XCall) : Prop := ∀ f args H r H', call f args H = some (r, H') → WC P f args H fun r1 H1 => r1 = r ∧ H1 = H'
def xop {β : Type} (call : XCall) (T : TypeId → Option TD) (ev : Operand → AV) (op : Op) (H : Heap) (k : AV → Heap → Option β) : Option β :=
  match op with
  | .call ⟨.value f, args, _⟩ => match ev f with
    | .fn g first caps => f3s (first ++ args.toList.map ev ++ caps) fun as => match call g as H with
      | some (v, H') => k v H'
      | none => none
    | _ => none
  | op => match xo T ev H op with
    | some (v, d) => v.f3 fun v => d.fap H fun H' => k v H'
    | none => none
theorem xop_sound {β : Type} {call : XCall} (hc : CallOk P call) {ev : Operand → AV} {o : Oper} {H : Heap} {k : AV → Heap → Option β} {b : β} (h : xop call T ev o.op H k = some b) :
    ∃ v H', k v H' = some b ∧ ∀ K : AV → Heap → Prop, K v H' → WOp P T ev o H K := by
  have rest : (match xo T ev H o.op with
    | some (v, d) => v.f3 fun v => d.fap H fun H' => k v H'
    | none => none) = some b → ∃ v H', k v H' = some b ∧ ∀ K : AV → Heap → Prop, K v H' → WOp P T ev o H K := fun h => by
    split at h
    · rename_i v d hd
      rw [AV.f3_eq, HD.fap_eq] at h
      exact ⟨_, _, h, fun K hK => xo_sound hd hK⟩
    · cases h
  unfold xop at h
  split at h
  · rename_i f args ts ho
    split at h
    · rename_i g first caps hf
      rw [f3s_eq] at h
      split at h
      · rename_i v H' hv
        refine ⟨_, _, h, fun K hK => ?_⟩
        unfold WOp
        rw [ho]
        simp only
        unfold WCall
        simp only [hf]
        show WC P g _ H K
        exact (hc _ _ _ _ _ hv).mono fun r1 H1 ⟨h1, h2⟩ => by rw [h1, h2]; exact hK
      · cases h
    · cases h
  · exact rest h
def xput {β : Type} (n : Nat) (d : Option Tmp) (v : AV) (l : List AV) (k : List AV → Option β) : Option β := match d with
  | none => k l
  | some d => match Nat.blt d n with
    | true => fset l d v k
    | false => none
theorem toFr_set {l : List AV} {d : Nat} (h : d < l.length) (v : AV) : toFr (l.set d v) = (toFr l).put (some d) v := by
  funext t
  simp only [toFr, Fr.put]
  by_cases e : t = d
  · subst e; rw [if_pos rfl]; simp [List.getD, h]
  · rw [if_neg e]; simp [List.getD, List.getElem?_set, Ne.symm e]
theorem xput_sound {β : Type} {n : Nat} {o : Oper} {v : AV} {l : List AV} {k : List AV → Option β} {b : β} (hl : l.length = n) (h : xput n o.dst v l k = some b) :
    dstOk n o ∧ ∃ l', l'.length = n ∧ toFr l' = (toFr l).put o.dst v ∧ k l' = some b := by
  unfold xput at h
  unfold dstOk
  cases hd : o.dst with
  | none => rw [hd] at h; exact ⟨trivial, l, hl, rfl, h⟩
  | some d =>
    rw [hd] at h
    simp only at h
    split at h
    · rename_i hb
      have hlt : d < n := by simp only [Nat.blt_eq] at hb; exact hb
      rw [fset_eq] at h
      exact ⟨hlt, _, by simpa using hl, toFr_set (by rw [hl]; exact hlt) v, h⟩
    · cases h
def xOps (call : XCall) (T : TypeId → Option TD) (n : Nat) (all : List Oper) : List Oper → List AV → Heap → Option (List AV × Heap)
  | [], l, H => some (l, H)
  | o :: rest, l, H => match wantd all (toFr l) o with
    | some true => xop call T (toFr l).ev o.op H fun v H' => xput n o.dst v l fun l' => xOps call T n all rest l' H'
    | some false => xput n o.dst (.tup []) l fun l' => xOps call T n all rest l' H
    | none => none
theorem dstOk_of {n : Nat} {o : Oper} (h : dstOk n o) : dstOk n o := h
theorem xOps_sound {call : XCall} (hc : CallOk P call) {n : Nat} {all : List Oper} : ∀ (rest : List Oper) (l : List AV) (H : Heap) (l' : List AV) (H' : Heap), xOps call T n all rest l H = some (l', H') → l.length = n →
    l'.length = n ∧ ∀ Q : Fr → Heap → Prop, Q (toFr l') H' → WOps P T n all rest (toFr l) H Q
  | [], l, H, l', H', h, hl => by
    simp only [xOps, Option.some.injEq, Prod.mk.injEq] at h
    obtain ⟨rfl, rfl⟩ := h
    exact ⟨hl, fun Q hQ => hQ⟩
  | o :: rest, l, H, l', H', h, hl => by
    unfold xOps at h
    split at h
    · rename_i hw
      obtain ⟨v, H1, h1, h2⟩ := xop_sound hc h
      obtain ⟨hd, l1, hl1, e1, h3⟩ := xput_sound hl h1
      obtain ⟨hl', ih⟩ := xOps_sound hc rest l1 H1 l' H' h3 hl1
      refine ⟨hl', fun Q hQ => ?_⟩
      unfold WOps
      refine ⟨hd, ?_⟩
      rw [hw]
      refine h2 _ ?_
      show WOps P T n all rest ((toFr l).put o.dst v) H1 Q
      rw [← e1]; exact ih Q hQ
    · rename_i hw
      obtain ⟨hd, l1, hl1, e1, h3⟩ := xput_sound hl h
      obtain ⟨hl', ih⟩ := xOps_sound hc rest l1 H l' H' h3 hl1
      refine ⟨hl', fun Q hQ => ?_⟩
      unfold WOps
      refine ⟨hd, ?_⟩
      rw [hw]
      show WOps P T n all rest ((toFr l).put o.dst (.tup [])) H Q
      rw [← e1]; exact ih Q hQ
    · cases h
/-- A region that draws its order, by its plan. -/
def xDr (call : XCall) (T : TypeId → Option TD) (n : Nat) (all : List Oper) : List (Nat × Option (List Bool)) → List RC → List AV → Heap → Option (List AV × Heap)
  | [], _, l, H => some (l, H)
  | (i, f) :: rest, rs, l, H => match all[i]? with
    | none => none
    | some o => match wantd all (toFr l) o with
      | some true => xop call T (toFr l).ev o.op H fun v H' => match f with
        | none => xput n o.dst v l fun l' => xDr call T n all rest (mkRC T (toFr l).ev v H.length H' o.op :: rs) l' H'
        | some fl => match keepAllB T fl rs H' with
          | true => xput n o.dst v l fun l' => xDr call T n all rest (.pure :: rs) l' H'
          | false => none
      | some false => xput n o.dst (.tup []) l fun l' => xDr call T n all rest (.pure :: rs) l' H
      | none => none
theorem xDr_sound {call : XCall} (hc : CallOk P call) {n : Nat} {all : List Oper} : ∀ (rest : List (Nat × Option (List Bool))) (rs : List RC) (l : List AV) (H : Heap) (l' : List AV) (H' : Heap), xDr call T n all rest rs l H = some (l', H') → l.length = n →
    l'.length = n ∧ ∀ Q : Fr → Heap → Prop, Q (toFr l') H' → WDr P T n all rest rs (toFr l) H Q
  | [], rs, l, H, l', H', h, hl => by
    simp only [xDr, Option.some.injEq, Prod.mk.injEq] at h
    obtain ⟨rfl, rfl⟩ := h
    exact ⟨hl, fun Q hQ => hQ⟩
  | (i, f) :: rest, rs, l, H, l', H', h, hl => by
    unfold xDr at h
    split at h
    · cases h
    rename_i o ho
    split at h
    · rename_i hw
      obtain ⟨v, H1, h1, h2⟩ := xop_sound hc h
      split at h1
      · obtain ⟨hd, l1, hl1, e1, h3⟩ := xput_sound hl h1
        obtain ⟨hl', ih⟩ := xDr_sound hc rest _ l1 H1 l' H' h3 hl1
        refine ⟨hl', fun Q hQ => ?_⟩
        rw [WDr_cons, ho, WDo_none]
        refine ⟨hd, ?_⟩
        rw [hw]
        refine h2 _ ?_
        rw [drK_eq, ← e1]; exact ih Q hQ
      · rename_i fl
        split at h1
        · rename_i hk
          obtain ⟨hd, l1, hl1, e1, h3⟩ := xput_sound hl h1
          obtain ⟨hl', ih⟩ := xDr_sound hc rest _ l1 H1 l' H' h3 hl1
          refine ⟨hl', fun Q hQ => ?_⟩
          rw [WDr_cons, ho, WDo_some]
          refine ⟨hd, ?_⟩
          rw [hw]
          refine h2 _ ?_
          rw [efK_eq, ← e1]; exact ⟨keepAllB_ok hk, ih Q hQ⟩
        · cases h1
    · rename_i hw
      obtain ⟨hd, l1, hl1, e1, h3⟩ := xput_sound hl h
      obtain ⟨hl', ih⟩ := xDr_sound hc rest _ l1 H l' H' h3 hl1
      refine ⟨hl', fun Q hQ => ?_⟩
      cases f with
      | none =>
        rw [WDr_cons, ho, WDo_none]
        refine ⟨hd, ?_⟩
        rw [hw]
        show drU _ _ _ _ _ _
        rw [drU_eq, ← e1]; exact ih Q hQ
      | some fl =>
        rw [WDr_cons, ho, WDo_some]
        refine ⟨hd, ?_⟩
        rw [hw]
        show drU _ _ _ _ _ _
        rw [drU_eq, ← e1]; exact ih Q hQ
    · cases h

/-! ### Code -/
abbrev DRows := Nat → List (Nat × Option (List Bool))
def drawsOk (R : DRows) : Code → Bool
  | .region id ops true => drawOk ops.toList (R id)
  | .seq a b => drawsOk R a && drawsOk R b
  | .cond _ a b => drawsOk R a && drawsOk R b
  | .block _ c => drawsOk R c
  | .loop c => drawsOk R c
  | _ => true
def xc (call : XCall) (T : TypeId → Option TD) (n : Nat) (R : DRows) : Nat → Code → List AV → Heap → Option (Exit × List AV × Heap)
  | 0, _, _, _ => none
  | k + 1, c, l, H => match c with
    | .skip => some (.normal, l, H)
    | .region _ ops false => match xOps call T n ops.toList ops.toList l H with
      | some (l', H') => some (.normal, l', H')
      | none => none
    | .region id ops true => match xDr call T n ops.toList (R id) [] l H with
      | some (l', H') => some (.normal, l', H')
      | none => none
    | .seq a b => match xc call T n R k a l H with
      | some (.normal, l', H') => xc call T n R k b l' H'
      | r => r
    | .cond x a b => match (toFr l).ev x with
      | .bool true => xc call T n R k a l H
      | .bool false => xc call T n R k b l H
      | _ => none
    | .block id c => match xc call T n R k c l H with
      | some (.exit id', l', H') => if id' = id then some (.normal, l', H') else some (.exit id', l', H')
      | r => r
    | .exit id => some (.exit id, l, H)
    | .ret => some (.ret, l, H)
    | .loop c => match xc call T n R k c l H with
      | some (.normal, l', H') => xc call T n R k (.loop c) l' H'
      | r => r
    | _ => none
theorem xc_sound (hT : TOk P T) (hm : P.follows .mixedOrders = true) {call : XCall} (hc : CallOk P call) {n : Nat} {R : DRows} : ∀ (k : Nat) (c : Code) (l : List AV) (H : Heap) (e : Exit) (l' : List AV) (H' : Heap), drawsOk R c = true → xc call T n R k c l H = some (e, l', H') → l.length = n →
    l'.length = n ∧ ∀ Q : Exit → Fr → Heap → Prop, Q e (toFr l') H' → WX P n c (toFr l) H Q
  | 0, _, _, _, _, _, _, _, h, _ => by cases h
  | k + 1, c, l, H, e, l', H', hd, h, hl => by
    unfold xc at h
    split at h
    · simp only [Option.some.injEq, Prod.mk.injEq] at h
      obtain ⟨rfl, rfl, rfl⟩ := h
      exact ⟨hl, fun Q hQ => WX_skip hQ⟩
    · split at h
      · rename_i l1 H1 h1
        simp only [Option.some.injEq, Prod.mk.injEq] at h
        obtain ⟨rfl, rfl, rfl⟩ := h
        obtain ⟨h2, h3⟩ := xOps_sound hc _ _ _ _ _ h1 hl
        exact ⟨h2, fun Q hQ => WX_region hT (h3 _ hQ)⟩
      · cases h
    · split at h
      · rename_i l1 H1 h1
        simp only [Option.some.injEq, Prod.mk.injEq] at h
        obtain ⟨rfl, rfl, rfl⟩ := h
        obtain ⟨h2, h3⟩ := xDr_sound hc _ _ _ _ _ _ h1 hl
        exact ⟨h2, fun Q hQ => WX_rows hT hm _ hd (h3 _ hQ)⟩
      · cases h
    · rename_i a b
      simp only [drawsOk, Bool.and_eq_true] at hd
      split at h
      · rename_i l1 H1 h1
        obtain ⟨h2, h3⟩ := xc_sound hT hm hc k a l H _ _ _ hd.1 h1 hl
        obtain ⟨h4, h5⟩ := xc_sound hT hm hc k b l1 H1 _ _ _ hd.2 h h2
        exact ⟨h4, fun Q hQ => WX_seq (h3 _ (h5 Q hQ))⟩
      · rename_i hn
        obtain ⟨h2, h3⟩ := xc_sound hT hm hc k a l H _ _ _ hd.1 h hl
        refine ⟨h2, fun Q hQ => WX_seq (h3 _ ?_)⟩
        cases e with
        | normal => exact absurd h (hn _ _)
        | _ => exact hQ
    · rename_i x a b
      simp only [drawsOk, Bool.and_eq_true] at hd
      split at h
      · rename_i hx
        obtain ⟨h2, h3⟩ := xc_sound hT hm hc k a l H _ _ _ hd.1 h hl
        exact ⟨h2, fun Q hQ => WX_cond (by rw [hx, IfB_true]; exact h3 Q hQ)⟩
      · rename_i hx
        obtain ⟨h2, h3⟩ := xc_sound hT hm hc k b l H _ _ _ hd.2 h hl
        exact ⟨h2, fun Q hQ => WX_cond (by rw [hx, IfB_false]; exact h3 Q hQ)⟩
      · cases h
    · rename_i id a
      simp only [drawsOk] at hd
      split at h
      · rename_i id' l1 H1 h1
        obtain ⟨h2, h3⟩ := xc_sound hT hm hc k a l H _ _ _ hd h1 hl
        split at h
        · rename_i he
          simp only [Option.some.injEq, Prod.mk.injEq] at h
          obtain ⟨rfl, rfl, rfl⟩ := h
          exact ⟨h2, fun Q hQ => WX_block (h3 _ (by rw [XBlock_eq, if_pos he]; exact hQ))⟩
        · rename_i he
          simp only [Option.some.injEq, Prod.mk.injEq] at h
          obtain ⟨rfl, rfl, rfl⟩ := h
          exact ⟨h2, fun Q hQ => WX_block (h3 _ (by rw [XBlock_eq, if_neg he]; exact hQ))⟩
      · rename_i hn
        obtain ⟨h2, h3⟩ := xc_sound hT hm hc k a l H _ _ _ hd h hl
        refine ⟨h2, fun Q hQ => WX_block (h3 _ ?_)⟩
        cases e with
        | exit id' => exact absurd h (hn _ _ _)
        | _ => exact hQ
    · simp only [Option.some.injEq, Prod.mk.injEq] at h
      obtain ⟨rfl, rfl, rfl⟩ := h
      exact ⟨hl, fun Q hQ => WX_exit hQ⟩
    · simp only [Option.some.injEq, Prod.mk.injEq] at h
      obtain ⟨rfl, rfl, rfl⟩ := h
      exact ⟨hl, fun Q hQ => WX_ret hQ⟩
    · rename_i a
      have hd' : drawsOk R a = true := hd
      have h0 : xc call T n R (k + 1) (.loop a) l H = some (e, l', H') := by unfold xc; exact h
      have main : ∀ Q : Exit → Fr → Heap → Prop, (l'.length = n → Q e (toFr l') H') → WX P n (.loop a) (toFr l) H Q := fun Q hQ => by
        refine WX_loop (fun m fr G => m ≤ k + 1 ∧ ∃ l0, fr = toFr l0 ∧ l0.length = n ∧ xc call T n R m (.loop a) l0 G = some (e, l', H')) (k + 1) ⟨Nat.le_refl _, l, rfl, hl, h0⟩ ?_
        rintro m fr G ⟨hm', l0, rfl, hl0, hx⟩
        cases m with
        | zero => cases hx
        | succ m =>
          unfold xc at hx
          simp only at hx
          split at hx
          · rename_i l1 H1 h1
            obtain ⟨h2, h3⟩ := xc_sound hT hm hc m a l0 G _ _ _ hd' h1 hl0
            exact h3 _ ⟨m, by omega, by omega, l1, rfl, h2, hx⟩
          · rename_i hn
            obtain ⟨h2, h3⟩ := xc_sound hT hm hc m a l0 G _ _ _ hd' hx hl0
            refine h3 _ ?_
            cases e with
            | normal => exact absurd hx (hn _ _)
            | _ => exact hQ h2
      have len : l'.length = n := by
        clear main
        split at h
        · rename_i l1 H1 h1
          obtain ⟨h2, _⟩ := xc_sound hT hm hc k a l H _ _ _ hd' h1 hl
          exact (xc_sound hT hm hc k (.loop a) l1 H1 _ _ _ hd h h2).1
        · exact (xc_sound hT hm hc k a l H _ _ _ hd' h hl).1
      exact ⟨len, fun Q hQ => main Q fun _ => hQ⟩
    · cases h
termination_by k => k

/-! ### Calls -/
def xC (P : Program) (T : TypeId → Option TD) (N : Nat) (R : FuncId → DRows) : Nat → XCall
  | 0, _, _, _ => none
  | k + 1, f, args, H => match Nat.blt f N with
    | true => match P.funcs[f]? with
      | some fn => match fn.body with
        | some c => match decide (fn.name = "runtime.NumGoroutine"), Nat.ble args.length fn.ntmps with
          | false, true => match xc (xC P T N R k) T fn.ntmps (R f) 100000 c (args ++ List.replicate (fn.ntmps - args.length) (.tup [])) H with
            | some (.normal, l', H') => (ares T (toFr l') H' fn.results.toList).map fun r => (resOf r, H')
            | some (.ret, l', H') => (ares T (toFr l') H' fn.results.toList).map fun r => (resOf r, H')
            | _ => none
          | _, _ => none
        | none => none
      | none => none
    | false => none
def drawsAll (P : Program) (R : FuncId → DRows) (N : Nat) : Bool := (List.range N).all fun f => match P.funcs[f]? with
  | some fn => match fn.body with
    | some c => drawsOk (R f) c
    | none => true
  | none => true
theorem toFr_init (args : List AV) (n : Nat) : toFr (args ++ List.replicate n (.tup [])) = Fr.init args := by
  funext t
  simp only [toFr, Fr.init, List.getD]
  by_cases h : t < args.length
  · rw [List.getElem?_append_left h]
  · rw [List.getElem?_append_right (by omega), List.getElem?_eq_none (l := args) (by omega)]
    rw [List.getElem?_replicate]; split <;> rfl
theorem xC_ok (hT : TOk P T) (hm : P.follows .mixedOrders = true) {N : Nat} {R : FuncId → DRows} (hd : drawsAll P R N = true) : ∀ k, CallOk P (xC P T N R k)
  | 0 => fun f args H r H' h => by cases h
  | k + 1 => fun f args H r H' h => by
    unfold xC at h
    split at h
    · rename_i hN
      have hN' : f < N := by simpa [Nat.blt_eq] using hN
      have hdf := (List.all_eq_true.1 hd) f (List.mem_range.2 hN')
      split at h
      · rename_i fn hf
        rw [hf] at hdf
        simp only at hdf
        split at h
        · rename_i c hb
          rw [hb] at hdf
          simp only at hdf
          split at h
          · rename_i hname hle
            have hname' : fn.name ≠ "runtime.NumGoroutine" := by simpa using hname
            have hle' : args.length ≤ fn.ntmps := by simpa [Nat.ble_eq] using hle
            have hlen : (args ++ List.replicate (fn.ntmps - args.length) (AV.tup [])).length = fn.ntmps := by simp; omega
            refine WC_of_body hT hf hb hname' hle' ?_
            rw [← toFr_init args (fn.ntmps - args.length)]
            split at h
            · rename_i l1 H1 h1
              obtain ⟨h2, h3⟩ := xc_sound hT hm (xC_ok hT hm hd k) _ _ _ _ _ _ _ hdf h1 hlen
              refine h3 _ ?_
              rw [bodyK_normal]
              cases ha : ares T (toFr l1) H1 fn.results.toList with
              | none => rw [ha] at h; cases h
              | some l =>
                rw [ha] at h
                simp only [Option.map_some, Option.some.injEq, Prod.mk.injEq] at h
                obtain ⟨rfl, rfl⟩ := h
                exact ⟨rfl, rfl⟩
            · rename_i l1 H1 h1
              obtain ⟨h2, h3⟩ := xc_sound hT hm (xC_ok hT hm hd k) _ _ _ _ _ _ _ hdf h1 hlen
              refine h3 _ ?_
              rw [bodyK_ret]
              cases ha : ares T (toFr l1) H1 fn.results.toList with
              | none => rw [ha] at h; cases h
              | some l =>
                rw [ha] at h
                simp only [Option.map_some, Option.some.injEq, Prod.mk.injEq] at h
                obtain ⟨rfl, rfl⟩ := h
                exact ⟨rfl, rfl⟩
            · cases h
          · cases h
        · cases h
      · cases h
    · cases h
def TOkFrom (P : Program) : Nat → List (Option TD) → Prop
  | _, [] => True
  | i, none :: l => TOkFrom P (i + 1) l
  | i, some d :: l => tdOf P i = some d ∧ TOkFrom P (i + 1) l
theorem TOkFrom.get : ∀ {l : List (Option TD)} {i : Nat}, TOkFrom P i l → ∀ (j : Nat) d, l[j]? = some (some d) → tdOf P (i + j) = some d
  | none :: l, i, h, 0, d, hd => by simp at hd
  | some e :: l, i, h, 0, d, hd => by simp at hd; subst hd; exact h.1
  | none :: l, i, h, j + 1, d, hd => by have := TOkFrom.get (l := l) h j d (by simpa using hd); rw [← this, Nat.add_right_comm]; rfl
  | some e :: l, i, h, j + 1, d, hd => by have := TOkFrom.get (l := l) h.2 j d (by simpa using hd); rw [← this, Nat.add_right_comm]; rfl
theorem TOk_of_list {l : List (Option TD)} (h : TOkFrom P 0 l) : TOk P fun t => match l[t]? with | some d => d | none => none := fun t d ht => by
  have ht' : (match l[t]? with | some d => d | none => none) = some d := ht
  split at ht'
  · rename_i x hx
    subst ht'
    have := h.get t d hx
    simpa using this
  · cases ht'
/-- Is that the answer? -/
def xTrue : Option (AV × Heap) → Bool
  | some (.bool b, _) => b
  | _ => false
theorem xC_true (hT : TOk P T) (hm : P.follows .mixedOrders = true) {N : Nat} {R : FuncId → DRows} (hd : drawsAll P R N = true) {k : Nat} {f : FuncId} (h : xTrue (xC P T N R k f [] []) = true) : WC P f [] [] fun r _ => r = .bool true := by
  cases hx : xC P T N R k f [] [] with
  | none => rw [hx] at h; cases h
  | some p =>
    obtain ⟨v, H'⟩ := p
    rw [hx] at h
    cases v <;> simp only [xTrue, Bool.false_eq_true] at h
    rename_i b
    subst h
    exact (xC_ok hT hm hd k f [] [] _ _ hx).mono fun r1 H1 ⟨h1, _⟩ => h1
/-- What takes nothing and tells nothing of memory leaves all memory as it was. -/
theorem WC_closed {f : FuncId} {b : Bool} (h : WC P f [] [] fun r _ => r = .bool b) (H : Heap) : WC P f [] H fun r H' => r = .bool b ∧ H' = H := by
  refine ⟨h.1, fun base φ w vs hR hv => ?_⟩
  refine (h.2 w.heap.size (fun _ => none) w vs (Rel.empty w) ?_).mono ?_
  · obtain rfl := hv.nil_left; exact RVs.nil _
  · rintro e w' ⟨v, r, H', φ', rfl, k1, k2, k3, rfl⟩
    cases k1
    have hb : Below w.heap.size w w' := k3.below
    have hsz := hb.size
    have hrow : ∀ k, k < w.heap.size → w'.heap[k]? = w.heap[k]? := fun k hk => hb.block k hk
    exact ⟨_, .bool b, H, φ, rfl, .bool b, hR.grow hrow hsz, ⟨fun _ _ => rfl, Nat.le_refl _, hb.mono hR.size⟩, rfl, rfl⟩
end
end Go.Proofs.PI
