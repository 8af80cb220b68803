import Derived.Test.YtphaegcoldpclaaDoorStE
set_option linter.unusedSimpArgs false
set_option linter.unusedVariables false
set_option maxRecDepth 100000
namespace Go.Proofs.YtphaegcoldpclaaDoor
open Go Go.Fx Go.Proofs Go.Pl

theorem copy20_spec (m : Int) (qs : List Int) (uq : Value) (B : HProp) (hB : Vw B 1 uq (qs.map sqV)) (hl : qs.length ≤ 1000000) :
    FSpec Tryd.prog 9 [.agg #[.int .u64 m, uq]] [B] V1s (fun _ => True) (fun y => .agg #[.int .u64 m, y.1]) (fun y => [row 25 1 y.1 (qs.map sqV), B]) := by
  have l2 : (qs.map sqV).length = qs.length := by simp
  refine fspec_lrn (fun R hh s => (VwIn.slice (VwIn.here hB)) hh s) ?_
  rintro ⟨pq, cq, rfl⟩
  refine spec_intro [] _ Tryd.func9 rfl Tryd.ntmps9 (by rfl) (fun w0 R => ?_)
  refine ok_map (fun _ h => nilRow (e := 25) (n := 1) h) ?_
  repeat' (first | (refine go_Y ?_; intros) | (refine gs_Y ?_ ?_ <;> (intro hgd; try (simp only [Bool.not_true, Bool.not_false] at hgd))) | (refine gc_Y ?_ ?_ <;> intro _) | fail)
  rename_i v' hv'
  rw [List.nil_append]
  (refine rt_Y (y := ⟨v', hv'⟩) (hrs := Tryd.results9) (hv := ?_) (hφ := ?_))
  · rfl
  · trivial
end Go.Proofs.YtphaegcoldpclaaDoor
