import Derived.Test.YtkmkhiipiflelaaPiK
/-! PI, part L: how simp opens code. -/
set_option linter.unusedVariables false
namespace Go.Proofs.PI
section
variable (P : Program) (T : TypeId → Option TD) (n : Nat) (fr : Fr) (H : Heap) (Q : Exit → Fr → Heap → Prop)
theorem wx_skip : wx P T n .skip fr H Q = Q .normal fr H := rfl
theorem wx_region (id : Nat) (ops : Array Oper) : wx P T n (.region id ops false) fr H Q = WOps P T n ops.toList ops.toList fr H (Q .normal) := rfl
theorem wx_draw (id : Nat) (ops : Array Oper) : wx P T n (.region id ops true) fr H Q = WX P n (.region id ops true) fr H Q := rfl
theorem wx_seq (a b : Code) : wx P T n (.seq a b) fr H Q = wx P T n a fr H (XThen (codeK (wx P T n b) Q) Q) := rfl
theorem wx_cond (c : Operand) (a b : Code) : wx P T n (.cond c a b) fr H Q = IfB (fr.ev c) (wx P T n a) (wx P T n b) fr H Q := rfl
theorem wx_block (id : Nat) (c : Code) : wx P T n (.block id c) fr H Q = wx P T n c fr H (XBlock id Q) := rfl
theorem wx_exit (id : Nat) : wx P T n (.exit id) fr H Q = Q (.exit id) fr H := rfl
theorem wx_ret : wx P T n .ret fr H Q = Q .ret fr H := rfl
theorem wx_loop (c : Code) : wx P T n (.loop c) fr H Q = WX P n (.loop c) fr H Q := rfl
variable (K : Fr → Heap → Prop)
theorem XThen_normal : XThen K Q .normal fr H = K fr H := rfl
theorem XThen_exit (id : Nat) : XThen K Q (.exit id) fr H = Q (.exit id) fr H := rfl
theorem XThen_ret : XThen K Q .ret fr H = Q .ret fr H := rfl
theorem XBlock_normal (id : Nat) : XBlock id Q .normal fr H = Q .normal fr H := rfl
theorem XBlock_ret (id : Nat) : XBlock id Q .ret fr H = Q .ret fr H := rfl
theorem WOps_nil (all : List Oper) : WOps P T n all [] fr H K = K fr H := rfl
theorem WOps_cons (all : List Oper) (o : Oper) (rest : List Oper) : WOps P T n all (o :: rest) fr H K = (dstOk n o ∧ Guard (wantd all fr o) (opH P T fr.ev o (opsK (WOps P T n all rest) o.dst fr K)) (opsK (WOps P T n all rest) o.dst fr K (.tup [])) H) := rfl
end
theorem Guard_dec {c : Prop} {_ : Decidable c} {p q : Heap → Prop} {H : Heap} (h1 : c → p H) (h2 : ¬ c → q H) : Guard (some (decide c)) p q H :=
  Guard_split (fun h => h1 (of_decide_eq_true h)) (fun h => h2 (of_decide_eq_false h))
theorem Guard_ndec {c : Prop} {_ : Decidable c} {p q : Heap → Prop} {H : Heap} (h1 : ¬ c → p H) (h2 : c → q H) : Guard (some (!decide c)) p q H :=
  Guard_not (fun h => h1 (of_decide_eq_false h)) (fun h => h2 (of_decide_eq_true h))
section
variable (T : TypeId → Option TD) (H : Heap) (t e : TypeId)
theorem alen_str (s : List UInt8) : alen T t (.str s) = match tk T t with
  | .str => some (.int .i64 s.length)
  | _ => none := by unfold alen; generalize tk T t = k; cases k <;> rfl
theorem alen_sl (b o n : Nat) (c : Option Nat) : alen T t (.sl b o n c) = match tk T t with
  | .slice _ => some (.int .i64 n)
  | _ => none := by unfold alen; generalize tk T t = k; cases k <;> rfl
theorem alen_nils : alen T t .nils = match tk T t with
  | .slice _ => some (.int .i64 0)
  | _ => none := by unfold alen; generalize tk T t = k; cases k <;> rfl
theorem alen_emp : alen T t .emp = match tk T t with
  | .slice _ => some (.int .i64 0)
  | _ => none := by unfold alen; generalize tk T t = k; cases k <;> rfl
theorem alen_lst (n : Nat) (cs : List AV) : alen T t (.lst n cs) = match tk T t with
  | .slice _ => some (.int .i64 n)
  | _ => none := by unfold alen; generalize tk T t = k; cases k <;> rfl
theorem alen_nul : alen T t .nul = match tk T t with
  | .slice _ => some (.int .i64 0)
  | _ => none := by unfold alen; generalize tk T t = k; cases k <;> rfl
theorem aindexAddr_sl (b o len : Nat) (c : Option Nat) (k : IntKind) (n : Int) : aindexAddr T t (.sl b o len c) (.int k n) = match asliceElem T t with
  | some (_, sz) => if 0 ≤ n ∧ n < len then some (.ptr b (o + n.toNat * sz)) else none
  | none => none := by unfold aindexAddr; generalize asliceElem T t = k; cases k <;> rfl
theorem abytesStr_sl (b o len : Nat) (c : Option Nat) : abytesStr T H t e (.sl b o len c) = match asliceElem T t, tk T e with
  | some (e, _), .str => (match tk T e with
    | .int .u8 => ((H.read b o len).bind abytes).map .str
    | _ => none)
  | _, _ => none := by
  unfold abytesStr
  generalize asliceElem T t = k
  generalize tk T e = k2
  cases k with
  | none => cases k2 <;> rfl
  | some p =>
    obtain ⟨e', n⟩ := p
    cases k2 <;> try rfl
    simp only
    generalize tk T e' = k3
    cases k3 with
    | int k => cases k <;> rfl
    | _ => rfl
end
theorem one_int (k : IntKind) (n : Int) : AV.one (.int k n : AV) = true := rfl
theorem solid_int (k : IntKind) (n : Int) : AV.solid (.int k n : AV) = true := rfl
theorem cells_int (k : IntKind) (n : Int) : AV.cells (.int k n : AV) = [.int k n] := rfl
theorem one_bool (b : Bool) : AV.one (.bool b : AV) = true := rfl
theorem solid_bool (b : Bool) : AV.solid (.bool b : AV) = true := rfl
theorem cells_bool (b : Bool) : AV.cells (.bool b : AV) = [.bool b] := rfl
theorem one_str (s : List UInt8) : AV.one (.str s : AV) = true := rfl
theorem solid_str (s : List UInt8) : AV.solid (.str s : AV) = true := rfl
theorem cells_str (s : List UInt8) : AV.cells (.str s : AV) = [.str s] := rfl
theorem one_nilp : AV.one (.nilp : AV) = true := rfl
theorem solid_nilp : AV.solid (.nilp : AV) = true := rfl
theorem cells_nilp : AV.cells (.nilp : AV) = [.nilp] := rfl
theorem one_ptr (b o : Nat) : AV.one (.ptr b o : AV) = true := rfl
theorem solid_ptr (b o : Nat) : AV.solid (.ptr b o : AV) = true := rfl
theorem cells_ptr (b o : Nat) : AV.cells (.ptr b o : AV) = [.ptr b o] := rfl
theorem one_lst (n : Nat) (cs : List AV) : AV.one (.lst n cs : AV) = true := rfl
theorem solid_lst (n : Nat) (cs : List AV) : AV.solid (.lst n cs : AV) = true := rfl
theorem cells_lst (n : Nat) (cs : List AV) : AV.cells (.lst n cs : AV) = [.lst n cs] := rfl
theorem one_cptr (cs : List AV) : AV.one (.cptr cs : AV) = true := rfl
theorem solid_cptr (cs : List AV) : AV.solid (.cptr cs : AV) = true := rfl
theorem cells_cptr (cs : List AV) : AV.cells (.cptr cs : AV) = [.cptr cs] := rfl
theorem one_nul : AV.one (.nul : AV) = true := rfl
theorem solid_nul : AV.solid (.nul : AV) = true := rfl
theorem cells_nul : AV.cells (.nul : AV) = [.nul] := rfl
theorem one_nils : AV.one (.nils : AV) = true := rfl
theorem solid_nils : AV.solid (.nils : AV) = true := rfl
theorem cells_nils : AV.cells (.nils : AV) = [.nils] := rfl
theorem one_emp : AV.one (.emp : AV) = true := rfl
theorem solid_emp : AV.solid (.emp : AV) = true := rfl
theorem cells_emp : AV.cells (.emp : AV) = [.emp] := rfl
theorem one_sl (b o n : Nat) (c : Option Nat) : AV.one (.sl b o n c : AV) = true := rfl
theorem solid_sl (b o n : Nat) (c : Option Nat) : AV.solid (.sl b o n c : AV) = true := rfl
theorem cells_sl (b o n : Nat) (c : Option Nat) : AV.cells (.sl b o n c : AV) = [.sl b o n c] := rfl
theorem one_fn (f : FuncId) (x y : List AV) : AV.one (.fn f x y : AV) = true := rfl
theorem solid_fn (f : FuncId) (x y : List AV) : AV.solid (.fn f x y : AV) = true := rfl
theorem cells_fn (f : FuncId) (x y : List AV) : AV.cells (.fn f x y : AV) = [.fn f x y] := rfl
theorem one_nilf : AV.one (.nilf : AV) = true := rfl
theorem solid_nilf : AV.solid (.nilf : AV) = true := rfl
theorem cells_nilf : AV.cells (.nilf : AV) = [.nilf] := rfl
theorem solid_agg (l : List AV) : AV.solid (.agg l) = l.all AV.one := rfl
theorem cells_agg (l : List AV) : AV.cells (.agg l) = l := rfl
theorem sliceNil_nils : AV.sliceNil (.nils : AV) = some true := rfl
theorem sliceNil_sl (b o n : Nat) (c : Option Nat) : AV.sliceNil (.sl b o n c : AV) = some false := rfl
theorem sliceNil_emp : AV.sliceNil (.emp : AV) = some false := rfl
theorem ptrNil_nilp : AV.ptrNil (.nilp : AV) = some true := rfl
theorem ptrNil_ptr (b o : Nat) : AV.ptrNil (.ptr b o : AV) = some false := rfl
theorem one_solid {v : AV} (h : v.one = true) : v.solid = true := by cases v <;> first | rfl | (cases h; done)
theorem one_cells {v : AV} (h : v.one = true) : v.cells = [v] := by cases v <;> first | rfl | (cases h; done)
end Go.Proofs.PI

