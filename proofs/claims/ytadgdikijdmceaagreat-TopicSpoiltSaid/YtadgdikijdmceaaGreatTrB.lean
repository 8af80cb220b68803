import Derived.Test.YtadgdikijdmceaaGreatTrA
set_option linter.unusedSimpArgs false
set_option linter.unusedVariables false
set_option maxRecDepth 100000
namespace Go.Proofs.YtadgdikijdmceaaGreat
open Go Go.Fx Go.Proofs Go.Pl

def TsR (A : HProp) (x : Ts) : Prop := Vw A 1 x.v.1 (x.l.map strV) ∧ ∀ s ∈ x.l, s.size ≤ 140737488355328
structure TsG (A : HProp) (x : Ts) : Prop where
  r : TsR A x
  cap : capOk x.v.1
  n : x.n ≤ 9223372036854775807
theorem i64_nat {x : Int} (h0 : 0 ≤ x) (h1 : x ≤ 9223372036854775807) : IntKind.i64.wrap x = x := by
  unfold IntKind.wrap
  have e4 : (2 : Int) ^ IntKind.i64.bits = 18446744073709551616 := rfl
  have e5 : (2 : Int) ^ (IntKind.i64.bits - 1) = 9223372036854775808 := rfl
  simp only [e4, e5]
  split
  · rename_i h; simp only [IntKind.signed, Bool.true_and, decide_eq_true_eq] at h; omega
  · omega
theorem rem20 (sg : Nat) (h : sg ≤ 65535) : (1 : Int) + (sg : Int).tmod 20 = ((1 + sg % 20 : Nat) : Int) := by
  have : (sg : Int).tmod 20 = ((sg % 20 : Nat) : Int) := (Int.ofNat_tmod sg 20).symm
  rw [this]; omega
end Go.Proofs.YtadgdikijdmceaaGreat
