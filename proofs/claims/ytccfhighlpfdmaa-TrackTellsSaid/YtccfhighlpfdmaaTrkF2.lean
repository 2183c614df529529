import Derived.Test.YtccfhighlpfdmaaTrkE2
import Derived.Test.YtccfhighlpfdmaaTrkW
set_option linter.unusedSimpArgs false
set_option linter.unusedVariables false
set_option maxRecDepth 100000
set_option maxHeartbeats 4000000
namespace Go.Proofs.Ytccfhighlpfdmaa
open Go Go.Proofs Go.Proofs.PI
theorem on_spec (l : List Tk) (i : Int) (hn : l.length ≤ 140737488355328) (hns : ∀ t ∈ l, t.ns.length ≤ 140737488355328) (H : Heap) :
    WC Try.prog 22 [trAv l, .int .i64 i] H fun r H' => r = .tup [trAv (if askE l i = 0 then l.set i.toNat ⟨true, (tkAt l i.toNat).ns⟩ else []), .int .i64 (askE l i)] ∧ H' = H :=
  WC_val fun K hK => (on_own l i hn hns H).mono fun r H' ⟨⟨v, e, o⟩, k⟩ => hK r H' (by subst e; exact Thaw.tup_row ⟨Thaw.agg_row ⟨o.thaw, trivial⟩, .int _ _, trivial⟩) k
theorem off_spec (l : List Tk) (i : Int) (hn : l.length ≤ 140737488355328) (hns : ∀ t ∈ l, t.ns.length ≤ 140737488355328) (H : Heap) :
    WC Try.prog 25 [trAv l, .int .i64 i] H fun r H' => r = .tup [trAv (if askE l i = 0 then l.set i.toNat ⟨false, []⟩ else []), .int .i64 (askE l i)] ∧ H' = H :=
  WC_val fun K hK => (off_own l i hn hns H).mono fun r H' ⟨⟨v, e, o⟩, k⟩ => hK r H' (by subst e; exact Thaw.tup_row ⟨Thaw.agg_row ⟨o.thaw, trivial⟩, .int _ _, trivial⟩) k
/-! ### plain: who has what -/
/-! ### things that happen -/
structure Act where
  kind : Int
  conn : Int
  ten : Int
  key : List UInt8
  chs : List Chg
def Act.cs (a : Act) : List AV := [.int .u8 a.kind, .int .i64 a.conn, .int .i64 a.ten, .str a.key, chgE.lst a.chs]
def Act.Ok (a : Act) : Prop := (0 ≤ a.kind ∧ a.kind < 256) ∧ (∀ c ∈ a.chs, c.Ok) ∧ a.chs.length ≤ 140737488355328
end Go.Proofs.Ytccfhighlpfdmaa

