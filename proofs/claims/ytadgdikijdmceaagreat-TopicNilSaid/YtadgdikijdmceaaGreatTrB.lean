import Derived.Test.YtadgdikijdmceaaGreatTrA
set_option linter.unusedSimpArgs false
set_option linter.unusedVariables false
set_option maxRecDepth 100000
namespace Go.Proofs.YtadgdikijdmceaaGreat
open Go Go.Fx Go.Proofs Go.Pl

def TsR (A : HProp) (x : Ts) : Prop := Vw A 1 x.v.1 (x.l.map strV) ∧ ∀ s ∈ x.l, s.size ≤ 140737488355328
structure TsG (A : HProp) (x : Ts) : Prop where
  r : TsR A x
  cap : capOk x.v.1
  n : x.n ≤ 9223372036854775807
end Go.Proofs.YtadgdikijdmceaaGreat
