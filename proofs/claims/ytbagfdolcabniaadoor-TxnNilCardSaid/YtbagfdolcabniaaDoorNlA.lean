/- What no state answers: each function of package rel at nil. -/
import Derived.Test.YtbagfdolcabniaaDoorL14E
-- @DEFS Y
set_option linter.unusedSimpArgs false
set_option linter.unusedVariables false
set_option maxRecDepth 100000
namespace Go.Proofs.YtbagfdolcabniaaDoor
open Go Go.Fx Go.Proofs Go.Pl

theorem nil_Do (k t : Int) (w : Value) (hw : w.oneCell' = true) : FSpec Tryd.prog 13 [.pointer none, .agg #[.int .u8 k, .int .i64 t, w]] [] Unit (fun _ => True) (fun _ => .tuple #[.slice none 0 0, .slice none 0 0, .int .i64 1]) (fun _ => []) := by
  refine spec_intro [] _ Tryd.func13 rfl Tryd.ntmps13 (by rfl) (fun w0 R => ?_)
  repeat' (first | (refine go_Y ?_; intros) | (refine gs_Y ?_ ?_ <;> (intro hgd; try (simp only [Bool.not_true, Bool.not_false] at hgd))) | (refine gc_Y ?_ ?_ <;> intro _) | fail)
  (refine rt_Y (y := ()) (hrs := Tryd.results13) (hv := ?_) (hφ := ?_))
  · rfl
  · trivial
theorem nil_Get (t : Int) (v : Vl) : FSpec Tryd.prog 14 [.pointer none, .int .i64 t, .agg (valV v).toArray] [] Unit (fun _ => True) (fun _ => .tuple #[.slice none 0 0, .int .i64 1]) (fun _ => []) := by
  obtain ⟨k, i, r, s⟩ := v
  dsimp only [valV]
  refine spec_intro [] _ Tryd.func14 rfl Tryd.ntmps14 (by rfl) (fun w0 R => ?_)
  repeat' (first | (refine go_Y ?_; intros) | (refine gs_Y ?_ ?_ <;> (intro hgd; try (simp only [Bool.not_true, Bool.not_false] at hgd))) | (refine gc_Y ?_ ?_ <;> intro _) | fail)
  (refine rt_Y (y := ()) (hrs := Tryd.results14) (hv := ?_) (hφ := ?_))
  · rfl
  · trivial
theorem nil_some (t : Int) (f : Value) (hf : f.oneCell' = true) : FSpec Tryd.prog 90 [.pointer none, .int .i64 t, f] [] Unit (fun _ => True) (fun _ => .slice none 0 0) (fun _ => []) := by
  refine spec_intro [] _ Tryd.func90 rfl Tryd.ntmps90 (by rfl) (fun w0 R => ?_)
  repeat' (first | (refine go_Y ?_; intros) | (refine gs_Y ?_ ?_ <;> (intro hgd; try (simp only [Bool.not_true, Bool.not_false] at hgd))) | (refine gc_Y ?_ ?_ <;> intro _) | fail)
  (refine rt_Y (y := ()) (hrs := Tryd.results90) (hv := ?_) (hφ := ?_))
  · rfl
  · trivial
theorem nil_Rows (t : Int) : FSpec Tryd.prog 44 [.pointer none, .int .i64 t] [] Unit (fun _ => True) (fun _ => .slice none 0 0) (fun _ => []) := by
  refine spec_intro [] _ Tryd.func44 rfl Tryd.ntmps44 (by rfl) (fun w0 R => ?_)
  repeat' (first | (refine go_Y ?_; intros) | (refine gs_Y ?_ ?_ <;> (intro hgd; try (simp only [Bool.not_true, Bool.not_false] at hgd))) | (refine gc_Y ?_ ?_ <;> intro _) | fail)
  refine cl_Y (nil_some t _ rfl) ?_
  intro _ _
  repeat' (first | (refine go_Y ?_; intros) | (refine gs_Y ?_ ?_ <;> (intro hgd; try (simp only [Bool.not_true, Bool.not_false] at hgd))) | (refine gc_Y ?_ ?_ <;> intro _) | fail)
  (refine rt_Y (y := ()) (hrs := Tryd.results44) (hv := ?_) (hφ := ?_))
  · rfl
  · trivial
theorem nil_Of (t : Int) (v : Vl) : FSpec Tryd.prog 45 [.pointer none, .int .i64 t, .agg (valV v).toArray] [] Unit (fun _ => True) (fun _ => .slice none 0 0) (fun _ => []) := by
  obtain ⟨k, i, r, s⟩ := v
  dsimp only [valV]
  refine spec_intro [] _ Tryd.func45 rfl Tryd.ntmps45 (by rfl) (fun w0 R => ?_)
  repeat' (first | (refine go_Y ?_; intros) | (refine gs_Y ?_ ?_ <;> (intro hgd; try (simp only [Bool.not_true, Bool.not_false] at hgd))) | (refine gc_Y ?_ ?_ <;> intro _) | fail)
  refine cl_Y (nil_some t _ rfl) ?_
  intro _ _
  repeat' (first | (refine go_Y ?_; intros) | (refine gs_Y ?_ ?_ <;> (intro hgd; try (simp only [Bool.not_true, Bool.not_false] at hgd))) | (refine gc_Y ?_ ?_ <;> intro _) | fail)
  (refine rt_Y (y := ()) (hrs := Tryd.results45) (hv := ?_) (hφ := ?_))
  · rfl
  · trivial
theorem nil_Len : FSpec Tryd.prog 15 [.pointer none] [] Unit (fun _ => True) (fun _ => .int .i64 0) (fun _ => []) := by
  refine spec_intro [] _ Tryd.func15 rfl Tryd.ntmps15 (by rfl) (fun w0 R => ?_)
  repeat' (first | (refine go_Y ?_; intros) | (refine gs_Y ?_ ?_ <;> (intro hgd; try (simp only [Bool.not_true, Bool.not_false] at hgd))) | (refine gc_Y ?_ ?_ <;> intro _) | fail)
  (refine rt_Y (y := ()) (hrs := Tryd.results15) (hv := ?_) (hφ := ?_))
  · rfl
  · trivial
theorem nil_Turns : FSpec Tryd.prog 16 [.pointer none] [] Unit (fun _ => True) (fun _ => .int .u64 0) (fun _ => []) := by
  refine spec_intro [] _ Tryd.func16 rfl Tryd.ntmps16 (by rfl) (fun w0 R => ?_)
  repeat' (first | (refine go_Y ?_; intros) | (refine gs_Y ?_ ?_ <;> (intro hgd; try (simp only [Bool.not_true, Bool.not_false] at hgd))) | (refine gc_Y ?_ ?_ <;> intro _) | fail)
  (refine rt_Y (y := ()) (hrs := Tryd.results16) (hv := ?_) (hφ := ?_))
  · rfl
  · trivial
theorem nil_Whole : FSpec Tryd.prog 46 [.pointer none] [] Unit (fun _ => True) (fun _ => .int .i64 1) (fun _ => []) := by
  refine spec_intro [] _ Tryd.func46 rfl Tryd.ntmps46 (by rfl) (fun w0 R => ?_)
  repeat' (first | (refine go_Y ?_; intros) | (refine gs_Y ?_ ?_ <;> (intro hgd; try (simp only [Bool.not_true, Bool.not_false] at hgd))) | (refine gc_Y ?_ ?_ <;> intro _) | fail)
  (refine rt_Y (y := ()) (hrs := Tryd.results46) (hv := ?_) (hφ := ?_))
  · rfl
  · trivial
theorem nil_Copy : FSpec Tryd.prog 19 [.pointer none] [] Unit (fun _ => True) (fun _ => .pointer none) (fun _ => []) := by
  refine spec_intro [] _ Tryd.func19 rfl Tryd.ntmps19 (by rfl) (fun w0 R => ?_)
  repeat' (first | (refine go_Y ?_; intros) | (refine gs_Y ?_ ?_ <;> (intro hgd; try (simp only [Bool.not_true, Bool.not_false] at hgd))) | (refine gc_Y ?_ ?_ <;> intro _) | fail)
  (refine rt_Y (y := ()) (hrs := Tryd.results19) (hv := ?_) (hφ := ?_))
  · rfl
  · trivial
theorem nil_Schema : FSpec Tryd.prog 47 [.pointer none] [] Unit (fun _ => True) (fun _ => .agg #[.slice none 0 0]) (fun _ => []) := by
  refine spec_intro [] _ Tryd.func47 rfl Tryd.ntmps47 (by rfl) (fun w0 R => ?_)
  repeat' (first | (refine go_Y ?_; intros) | (refine gs_Y ?_ ?_ <;> (intro hgd; try (simp only [Bool.not_true, Bool.not_false] at hgd))) | (refine gc_Y ?_ ?_ <;> intro _) | fail)
  (refine rt_Y (y := ()) (hrs := Tryd.results47) (hv := ?_) (hφ := ?_))
  · rfl
  · trivial
end Go.Proofs.YtbagfdolcabniaaDoor
