import Derived.Test.YtadgdikijdmceaaGreatTqV
import Derived.Test.YtadgdikijdmceaaGreatG9
set_option linter.unusedSimpArgs false
set_option linter.unusedVariables false
set_option maxRecDepth 100000
namespace Go.Proofs.YtadgdikijdmceaaGreat
open Go Go.Fx Go.Proofs Go.Pl

abbrev rtP (rb : Nat) (v : Value) (f sg : Nat) : HProp := pts rb (.cells [v, .int .u64 (f : Int), .int .u64 (sg : Int)].toArray 55)
abbrev rwS (v : Value) (l : List BA) : HProp := row 9 1 v (l.map strV)
def rReadL (f : Nat) (all : List BA) (off : Nat) (most : Int) : List BA := if off < f ∨ all.length < off then [] else (all.drop off).take most.toNat
def rReadE (f : Nat) (all : List BA) (off : Nat) : Int := if off < f ∨ all.length < off then 3 else 0
def rDropF (sg off n : Nat) : Nat → Nat → Nat
  | 0, f => f
  | k + 1, f => if f + sg ≤ off ∧ f + sg < n then rDropF sg off n k (f + sg) else f
structure Ts where
  op : Int
  l : List BA
  v : V1s
  off : Nat
  n : Int
  m : Int
def tsV (x : Ts) : List Value := [.int .i64 x.op, x.v.1, .int .u64 (x.off : Int), .int .i64 x.n, .int .i64 x.m]
def wtL (l : List BA) : Nat := 20 * l.length + sumZ l
def wtS (xs : List Ts) : Nat := (xs.map fun x => wtL x.l).sum
theorem wtL_lenT (l : List BA) : lenT l ≤ wtL l := by
  unfold wtL
  rw [lenT_sumZ]; omega
end Go.Proofs.YtadgdikijdmceaaGreat
