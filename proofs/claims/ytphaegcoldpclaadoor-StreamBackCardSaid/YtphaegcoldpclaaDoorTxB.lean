import Derived.Test.YtphaegcoldpclaaDoorL14E
import Derived.Test.YtphaegcoldpclaaDoorSdP
set_option linter.unusedSimpArgs false
set_option linter.unusedVariables false
set_option maxRecDepth 100000
namespace Go.Pl
open Go
structure Chg where
  kind : Int
  table : Int
  bef : List Vl
  aft : List Vl
structure Tx where
  own : Rl
  t0 : Int
  redo : List Opr
  l : List Chg
  over : Bool
def Tx.doT (x : Tx) (o : Opr) : Tx × Int :=
  if x.over then (x, 150) else if 60 ≤ x.l.length then (x, 4) else
  if (x.own.doOp o).2.2.2 ≠ 0 then (x, (x.own.doOp o).2.2.2)
  else ({ x with own := (x.own.doOp o).1, redo := x.redo ++ [o], l := x.l ++ [⟨o.kind, o.table, (x.own.doOp o).2.1, (x.own.doOp o).2.2.1⟩] }, 0)
structure Tx.Ok (x : Tx) : Prop where
  own : x.own.Ok
  len : x.l.length ≤ 60
  rlen : x.redo.length = x.l.length
  rows : ∀ o ∈ x.redo, o.row.length ≤ 1000000 ∧ ∀ v ∈ o.row, v.wf
  chg : ∀ c ∈ x.l, c.bef.length ≤ 1000000 ∧ c.aft.length ≤ 1000000
  t0 : 0 ≤ x.t0
  t1 : x.t0 ≤ 18446744073709551615
end Go.Pl
namespace Go.Proofs.YtphaegcoldpclaaDoor
open Go Go.Fx Go.Proofs Go.Pl

structure Rm where
  bx : Nat
  kind : Int
  table : Int
  w : V1s
  row : List Vl
def Rm.c (x : Rm) : Opr := ⟨x.kind, x.table, x.row⟩
structure RmR (P : HProp) (x : Rm) : Prop where
  rd : Rd P x.bx (.cells [.int .u8 x.kind, .int .i64 x.table, x.w.1].toArray 110)
  vw : Vw P 4 x.w.1 (x.row.map valV)
theorem Ext.rd {P P' : HProp} (a : Ext P P') {b : Nat} {o : Obj} (h : Rd P b o) : Rd P' b o := fun f hf => by
  obtain ⟨h', l, p⟩ := a f hf
  exact l _ _ (h h' p)
theorem RmR.ext {P P' : HProp} (a : Ext P P') {x : Rm} (h : RmR P x) : RmR P' x := ⟨Ext.rd a h.rd, a.vw h.vw⟩
structure Cm where
  kind : Int
  table : Int
  bv : V1s
  bef : List Vl
  av : V1s
  aft : List Vl
def cmV (x : Cm) : List Value := [.int .u8 x.kind, .int .i64 x.table, x.bv.1, x.av.1]
def Cm.c (x : Cm) : Chg := ⟨x.kind, x.table, x.bef, x.aft⟩
structure CmR (P : HProp) (x : Cm) : Prop where
  bv : Vw P 4 x.bv.1 (x.bef.map valV)
  av : Vw P 4 x.av.1 (x.aft.map valV)
theorem CmR.ext {P P' : HProp} (a : Ext P P') {x : Cm} (h : CmR P x) : CmR P' x := ⟨a.vw h.bv, a.vw h.av⟩
structure TxY where
  bw : Nat
  vr : Value
  rs : List Rm
  vl : Value
  cs : List Cm
structure TxOK (P : HProp) (x : Tx) (y : TxY) : Prop where
  vr : y.vr.oneCell' = true
  vl : y.vl.oneCell' = true
  rs : ∀ r ∈ y.rs, RmR P r
  redo : y.rs.map Rm.c = x.redo
  cs : ∀ c ∈ y.cs, CmR P c
  l : y.cs.map Cm.c = x.l
theorem TxOK.ext {P P' : HProp} (a : Ext P P') {x : Tx} {y : TxY} (h : TxOK P x y) : TxOK P' x y := ⟨h.vr, h.vl, fun r hr => (h.rs r hr).ext a, h.redo, fun c hc => (h.cs c hc).ext a, h.l⟩
end Go.Proofs.YtphaegcoldpclaaDoor
