import Derived.Test.YtphaegcoldpclaaGreatDoorG10
set_option linter.unusedSimpArgs false
set_option linter.unusedVariables false
set_option maxRecDepth 100000
namespace Go.Proofs.YtphaegcoldpclaaGreatDoor
open Go Go.Fx Go.Proofs Go.Pl

theorem copy04_spec (l : List Vl) (u : Value) (A : HProp) (hA : Vw A 4 u (l.map valV)) (hz : l.length ≤ 1000000) :
    FSpec Tryz.prog 54 [u] [A] V1s (fun _ => True) (fun y => y.1) (fun y => [row 28 4 y.1 (l.map valV), A]) := by
  have la : (l.map valV).length = l.length := by simp
  refine spec_intro [] _ Tryz.func54 rfl Tryz.ntmps54 (by rfl) (fun w0 R => ?_)
  refine ok_learn (VwIn.slice (VwIn.here hA)) ?_
  rintro ⟨pu, cu, rfl⟩
  refine ok_map (fun _ h => nilRow (e := 28) (n := 4) h) ?_
  repeat' (first | (refine go_Y ?_; intros) | (refine gs_Y ?_ ?_ <;> (intro hgd; try (simp only [Bool.not_true, Bool.not_false] at hgd))) | (refine gc_Y ?_ ?_ <;> intro _) | fail)
  rename_i v' hv'
  (refine rt_Y (y := ⟨v', hv'⟩) (hrs := Tryz.results54) (hv := ?_) (hφ := ?_))
  · rfl
  · trivial
end Go.Proofs.YtphaegcoldpclaaGreatDoor
