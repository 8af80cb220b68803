import Derived.Test.YtphaegcoldpclaaDoorG5
set_option linter.unusedSimpArgs false
set_option linter.unusedVariables false
set_option maxRecDepth 100000
namespace Go.Proofs.YtphaegcoldpclaaDoor
open Go Go.Fx Go.Proofs Go.Pl

structure Om where
  kind : Int
  table : Int
  rv : V1s
  row : List Vl
def opV (o : Om) : List Value := [.int .u8 o.kind, .int .i64 o.table, o.rv.1]
def Om.c (o : Om) : Opr := ⟨o.kind, o.table, o.row⟩
structure OmR (A : HProp) (o : Om) : Prop where
  vw : Vw A 4 o.rv.1 (o.row.map valV)
  len : o.row.length ≤ 140737488355328
  txt : ∀ v ∈ o.row, v.text.size ≤ 140737488355328
structure OsR (A : HProp) (vo : Value) (ops : List Om) : Prop where
  vw : Vw A 3 vo (ops.map opV)
  op : ∀ o ∈ ops, OmR A o
  len : ops.length ≤ 140737488355328
def smallO (ops : List Om) : Prop := ops.length ≤ 300 ∧ ∀ o ∈ ops, o.row.length ≤ 3000

end Go.Proofs.YtphaegcoldpclaaDoor
