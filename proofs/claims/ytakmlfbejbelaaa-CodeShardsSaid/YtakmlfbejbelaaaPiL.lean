import Derived.Test.YtakmlfbejbelaaaPiK
/-! PI, part L: how simp opens code. -/
set_option linter.unusedVariables false
namespace Go.Proofs.PI
section
variable (P : Program) (T : TypeId → Option TD) (n : Nat) (fr : Fr) (H : Heap) (Q : Exit → Fr → Heap → Prop)
theorem wx_skip : wx P T n .skip fr H Q = Q .normal fr H := rfl
theorem wx_region (id : Nat) (ops : Array Oper) : wx P T n (.region id ops false) fr H Q = WOps P T n ops.toList ops.toList fr H (Q .normal) := rfl
theorem wx_draw (id : Nat) (ops : Array Oper) : wx P T n (.region id ops true) fr H Q = WX P n (.region id ops true) fr H Q := rfl
theorem wx_seq (a b : Code) : wx P T n (.seq a b) fr H Q = wx P T n a fr H (XThen (codeK (wx P T n b) Q) Q) := rfl
theorem wx_cond (c : Operand) (a b : Code) : wx P T n (.cond c a b) fr H Q = IfB (fr.ev c) (wx P T n a) (wx P T n b) fr H Q := rfl
theorem wx_block (id : Nat) (c : Code) : wx P T n (.block id c) fr H Q = wx P T n c fr H (XBlock id Q) := rfl
theorem wx_exit (id : Nat) : wx P T n (.exit id) fr H Q = Q (.exit id) fr H := rfl
theorem wx_ret : wx P T n .ret fr H Q = Q .ret fr H := rfl
theorem wx_loop (c : Code) : wx P T n (.loop c) fr H Q = WX P n (.loop c) fr H Q := rfl
variable (K : Fr → Heap → Prop)
theorem XThen_normal : XThen K Q .normal fr H = K fr H := rfl
theorem XThen_exit (id : Nat) : XThen K Q (.exit id) fr H = Q (.exit id) fr H := rfl
theorem XThen_ret : XThen K Q .ret fr H = Q .ret fr H := rfl
theorem XBlock_normal (id : Nat) : XBlock id Q .normal fr H = Q .normal fr H := rfl
theorem XBlock_ret (id : Nat) : XBlock id Q .ret fr H = Q .ret fr H := rfl
theorem WOps_nil (all : List Oper) : WOps P T n all [] fr H K = K fr H := rfl
theorem WOps_cons (all : List Oper) (o : Oper) (rest : List Oper) : WOps P T n all (o :: rest) fr H K = (dstOk n o ∧ Guard (wantd all fr o) (opH P T fr.ev o (opsK (WOps P T n all rest) o.dst fr K)) (opsK (WOps P T n all rest) o.dst fr K (.tup [])) H) := rfl
end
end Go.Proofs.PI
