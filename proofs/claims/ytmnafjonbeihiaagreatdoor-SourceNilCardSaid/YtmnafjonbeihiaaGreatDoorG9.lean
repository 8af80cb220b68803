/- Texts merged: SvE SvF. -/
import Derived.Test.YtmnafjonbeihiaaGreatDoorG8
import Derived.Test.YtmnafjonbeihiaaGreatDoorG3
import Derived.Sort.Statements
import Derived.Test.YtmnafjonbeihiaaGreatDoorG4
set_option linter.unusedSimpArgs false
set_option linter.unusedVariables false
set_option maxRecDepth 100000
namespace Go.Proofs.YtmnafjonbeihiaaGreatDoor
open Go Go.Fx Go.Proofs Go.Pl
end Go.Proofs.YtmnafjonbeihiaaGreatDoor
set_option pp.deepTerms true
set_option pp.maxSteps 200000
namespace Go.Proofs.YtmnafjonbeihiaaGreatDoor
open Go Go.Fx Go.Proofs Go.Pl
def Rl.Wf (r : Rl) : Prop := ∀ x ∈ r.rows, ∀ v ∈ x.2, v.wf
def pickK (r : Rl) (t : Int) (ask : List Vl → Bool) (ks : List Pc) : List (List Vl) := ks.filterMap fun p => if p.1 = t ∧ ask ((aget p r.rows).getD []) = true then some ((aget p r.rows).getD []) else none
def rowsAt (r : Rl) (t : Int) (ask : List Vl → Bool) : List (List Vl) := pickK r t ask (r.rows.map (·.1))
structure InOrder (r : Rl) (t : Int) (ask : List Vl → Bool) (l : List (List Vl)) : Prop where
  perm : l.Perm (rowsAt r t ask)
  srt : l.Pairwise fun x y => lessV (Pl.keyOf r.s t x) (Pl.keyOf r.s t y) = true
end Go.Proofs.YtmnafjonbeihiaaGreatDoor
