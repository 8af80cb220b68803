/- Texts merged: G8 G9. -/
import Derived.Test.YtmnafjonbeihiaaGreatDoorH29
import Derived.Test.YtmnafjonbeihiaaGreatDoorSvP
import Derived.Test.YtmnafjonbeihiaaGreatDoorG3
import Derived.Sort.Statements
import Derived.Test.YtmnafjonbeihiaaGreatDoorG4
/- Texts merged: SvA SvB. -/
set_option linter.unusedSimpArgs false
set_option linter.unusedVariables false
set_option maxRecDepth 100000
set_option pp.deepTerms true
set_option pp.maxSteps 200000
namespace Go.Fx
open Go
class CmpStr (P : Program) (f : FuncId) : Prop where
  call : ∀ (a b : ByteArray) w, (callFunc f #[.string a, .string b]).run P w = .ok (.value (.int .i64 (Lib.compareBytes a.data.toList b.data.toList))) w
end Go.Fx
namespace Go.Proofs.YtmnafjonbeihiaaGreatDoor
open Go Go.Fx Go.Proofs Go.Pl Go.RowKit
instance : CmpStr Tryz.prog 266 := ⟨fun a b w => by
  have h := run_callFunc_extern (P := Tryz.prog) (f := 266) (fn := Tryz.f266) (e := Extern.BytealgCompare.compare) (by kernel_rfl) (by kernel_rfl) (by kernel_rfl) (by kernel_rfl) (by kernel_rfl) #[.string a, .string b] w
  rw [h, Lib.run_compareString]; rfl⟩
def keyR (n : Int) : Int := if shiftOf .shr .u64 (canonR n) 63 = 0 then bitsOf .or .u64 (canonR n) 9223372036854775808 else bitsOf .xor .u64 (if IntKind.u64.signed then -1 else IntKind.u64.max) (canonR n)
def orL : List Int → Int
  | [] => 0
  | x :: l => if x = 0 then orL l else x
def i1V (x : Int) : List Value := [.int .i64 x]
def lessV (a b : Vl) : Bool := decide (compareV keyR a b < 0)
end Go.Proofs.YtmnafjonbeihiaaGreatDoor
/- Texts merged: SvE SvF. -/
namespace Go.Proofs.YtmnafjonbeihiaaGreatDoor
open Go Go.Fx Go.Proofs Go.Pl
def Rl.Wf (r : Rl) : Prop := ∀ x ∈ r.rows, ∀ v ∈ x.2, v.wf
def pickK (r : Rl) (t : Int) (ask : List Vl → Bool) (ks : List Pc) : List (List Vl) := ks.filterMap fun p => if p.1 = t ∧ ask ((aget p r.rows).getD []) = true then some ((aget p r.rows).getD []) else none
def rowsAt (r : Rl) (t : Int) (ask : List Vl → Bool) : List (List Vl) := pickK r t ask (r.rows.map (·.1))
structure InOrder (r : Rl) (t : Int) (ask : List Vl → Bool) (l : List (List Vl)) : Prop where
  perm : l.Perm (rowsAt r t ask)
  srt : l.Pairwise fun x y => lessV (Pl.keyOf r.s t x) (Pl.keyOf r.s t y) = true
end Go.Proofs.YtmnafjonbeihiaaGreatDoor
