import Derived.Test.YtkmkhiipiflelaaPiP
import Derived.Test.YtkmkhiipiflelaaPiL
/-! PI, part Q: regions that draw their order: how simp opens them. -/
set_option linter.unusedVariables false
set_option linter.unusedSimpArgs false
namespace Go.Proofs.PI
open Go.RowKit

def WDo (P : Program) (T : TypeId → Option TD) (n : Nat) (all : List Oper) (R : List RC → Fr → Heap → (Fr → Heap → Prop) → Prop) (rs : List RC) (fr : Fr) (H : Heap) (Q : Fr → Heap → Prop) : Option (List Bool) → Option Oper → Prop
  | none, some o => dstOk n o ∧ Guard (wantd all fr o) (opH P T fr.ev o (drK R T fr o H.length rs Q)) (drU R fr o rs Q) H
  | some fl, some o => dstOk n o ∧ Guard (wantd all fr o) (opH P T fr.ev o (efK R T fl fr o rs Q)) (drU R fr o rs Q) H
  | _, none => False
def WDr (P : Program) (T : TypeId → Option TD) (n : Nat) (all : List Oper) : List (Nat × Option (List Bool)) → List RC → Fr → Heap → (Fr → Heap → Prop) → Prop
  | [], _, fr, H, Q => Q fr H
  | (i, f) :: l, rs, fr, H, Q => WDo P T n all (WDr P T n all l) rs fr H Q f all[i]?
def rowsOk (ops : List Oper) (ms : List Nat) : List Nat → List (Nat × Option (List Bool)) → Bool
  | _, [] => true
  | done, (i, f) :: l => (match ops[i]? with
    | some o => f == (if isEff o.op = true then some (done.map fun j => cl ms j i) else none)
    | none => false) && rowsOk ops ms (i :: done) l
def drawOk (ops : List Oper) (rows : List (Nat × Option (List Bool))) : Bool := planOk ops (masks ops) (rows.map (·.1)) && rowsOk ops (masks ops) [] rows
section
variable {P : Program} {T : TypeId → Option TD} {n : Nat}
theorem WD_of_rows {all : List Oper} {ms : List Nat} : ∀ (rows : List (Nat × Option (List Bool))) (done : List Nat), rowsOk all ms done rows = true →
    WDr P T n all rows = WD P T n all (mkSteps all ms done (rows.map (·.1)))
  | [], done, h => rfl
  | (i, f) :: l, done, h => by
    simp only [rowsOk, Bool.and_eq_true] at h
    obtain ⟨h1, h2⟩ := h
    have ih := WD_of_rows l _ h2
    split at h1
    · rename_i o ho
      have hf := eq_of_beq h1
      funext rs fr H Q
      simp only [List.map_cons]
      rw [drop_get ho]
      show WDo P T n all (WDr P T n all l) rs fr H Q f all[i]? = _
      rw [ho, ih, hf]
      cases hb : isEff o.op
      · rfl
      · rfl
    · cases h1
theorem WX_rows (hT : TOk P T) (hm : P.follows .mixedOrders = true) (rows : List (Nat × Option (List Bool))) {id : Nat} {ops : Array Oper} {fr : Fr} {H : Heap} {Q : Exit → Fr → Heap → Prop} (hp : drawOk ops.toList rows = true)
    (h : WDr P T n ops.toList rows [] fr H (Q .normal)) : WX P n (.region id ops true) fr H Q := by
  simp only [drawOk, Bool.and_eq_true] at hp
  refine WX_draw hT hm hp.1 ?_
  rw [← WD_of_rows rows [] hp.2]
  exact h
end
section
variable (P : Program) (T : TypeId → Option TD) (n : Nat) (all : List Oper) (R : List RC → Fr → Heap → (Fr → Heap → Prop) → Prop) (rs : List RC) (fr : Fr) (H : Heap) (Q : Fr → Heap → Prop)
theorem WDr_nil : WDr P T n all [] rs fr H Q = Q fr H := rfl
theorem WDr_cons (i : Nat) (f : Option (List Bool)) (l : List (Nat × Option (List Bool))) : WDr P T n all ((i, f) :: l) rs fr H Q = WDo P T n all (WDr P T n all l) rs fr H Q f all[i]? := rfl
theorem WDo_none (o : Oper) : WDo P T n all R rs fr H Q none (some o) = (dstOk n o ∧ Guard (wantd all fr o) (opH P T fr.ev o (drK R T fr o H.length rs Q)) (drU R fr o rs Q) H) := rfl
theorem WDo_some (fl : List Bool) (o : Oper) : WDo P T n all R rs fr H Q (some fl) (some o) = (dstOk n o ∧ Guard (wantd all fr o) (opH P T fr.ev o (efK R T fl fr o rs Q)) (drU R fr o rs Q) H) := rfl
theorem drK_eq (o : Oper) (s : Nat) (v : AV) : drK R T fr o s rs Q v H = R (mkRC T fr.ev v s H o.op :: rs) (fr.put o.dst v) H Q := rfl
theorem drU_eq (o : Oper) : drU R fr o rs Q H = R (.pure :: rs) (fr.put o.dst (.tup [])) H Q := rfl
theorem efK_eq (fl : List Bool) (o : Oper) (v : AV) : efK R T fl fr o rs Q v H = (keepAll T fl rs H ∧ R (.pure :: rs) (fr.put o.dst v) H Q) := rfl
theorem keepAll_nil : keepAll T [] rs H = True := rfl
theorem keepAll_true (fl : List Bool) (r : RC) : keepAll T (true :: fl) (r :: rs) H = keepAll T fl rs H := rfl
theorem keepAll_false (fl : List Bool) (r : RC) : keepAll T (false :: fl) (r :: rs) H = (r.ok T H ∧ keepAll T fl rs H) := rfl
theorem RC.ok_pure : RC.ok T H .pure = True := rfl
theorem RC.ok_load (t : TypeId) (p v : AV) : RC.ok T H (.load t p v) = (aload T H t p = some v) := rfl
theorem RC.ok_slice (t : TypeId) (x : AV) (lo hi mx : Option AV) (v : AV) : RC.ok T H (.slice t x lo hi mx v) = (aslice T H t x lo hi mx = some v) := rfl
theorem RC.ok_bytes (src dst : TypeId) (x v : AV) : RC.ok T H (.bytes src dst x v) = (abytesStr T H src dst x = some v) := rfl
theorem RC.ok_blk (s : Nat) (G : Heap) : RC.ok T H (.blk s G) = (H[s]? = G[s]?) := rfl
end
end Go.Proofs.PI

