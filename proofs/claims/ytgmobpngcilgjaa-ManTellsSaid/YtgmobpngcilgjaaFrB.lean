/- The walks of package frame: get, next, frames. -/
import Derived.Test.YtgmobpngcilgjaaFrA
import Derived.Test.YtgmobpngcilgjaaFrP
import Derived.Test.YtgmobpngcilgjaaSb
-- @DEFS Z
set_option linter.unusedSimpArgs false
set_option linter.unusedVariables false
set_option maxRecDepth 4000
namespace Go.Proofs.Ytgmobpngcilgjaa
open Go Go.Fx Go.Proofs Go.Pl

theorem fPut_long (s : ByteArray) (h : 4194304 < s.size) (h2 : s.size ≤ 4611686018427387904) : FSpec Try.prog 98 [.string s] [] Unit (fun _ => True) (fun _ => .tuple #[.string ⟨#[]⟩, .int .i64 5]) (fun _ => []) := by
  have t1 : decide ((4194304 : Int) < (s.size : Int)) = true := by simp; omega
  refine spec_intro [] _ Try.func98 rfl Try.ntmps98 (by rfl) (fun w0 R => ?_)
  repeat' (first | (refine go_Z ?_; intros) | (refine gs_Z ?_ ?_ <;> (intro hgd; try (simp only [Bool.not_true, Bool.not_false] at hgd))) | (refine gc_Z ?_ ?_ <;> intro _) | fail)
  (refine rt_Z (y := ()) (hrs := Try.results98) (hv := ?_) (hφ := ?_))
  · rfl
  · trivial

theorem fget_spec (s : ByteArray) (h1 : 1 ≤ s.size) (h8 : s.size ≤ 8) : FSpec Try.prog 164 [.string s] [] Unit (fun _ => True) (fun _ => .int .u32 (getU s)) (fun _ => []) := by
  refine spec_intro [] _ Try.func164 rfl Try.ntmps164 (by rfl) (fun w0 R => ?_)
  repeat' (first | (refine go_Z ?_; intros) | (refine gs_Z ?_ ?_ <;> (intro hgd; try (simp only [Bool.not_true, Bool.not_false] at hgd))) | (refine gc_Z ?_ ?_ <;> intro _) | fail)
  refine cl_Z (get_spec s h1 h8) ?_
  intro _ _
  repeat' (first | (refine go_Z ?_; intros) | (refine gs_Z ?_ ?_ <;> (intro hgd; try (simp only [Bool.not_true, Bool.not_false] at hgd))) | (refine gc_Z ?_ ?_ <;> intro _) | fail)
  (refine rt_Z (y := ()) (hrs := Try.results164) (hv := ?_) (hφ := ?_))
  · rfl
  · trivial

theorem wrap_u32 {v : Int} (h0 : 0 ≤ v) (h1 : v < 4294967296) : IntKind.i64.wrap v = v := wrap_i64 (by omega) (by omega)

theorem next_spec (b : ByteArray) (hb : b.size ≤ 4611686018427387904) : FSpec Try.prog 155 [.string b] [] Unit (fun _ => True) (fun _ => .tuple #[.string (nextF b).1, .int .i64 (nextF b).2]) (fun _ => []) := by
  unfold nextF
  by_cases h1 : b.size < 8
  · have t1 : decide ((b.size : Int) < 8) = true := by simp; omega
    rw [if_pos h1]
    refine spec_intro [] _ Try.func155 rfl Try.ntmps155 (by rfl) (fun w0 R => ?_)
    repeat' (first | (refine go_Z ?_; intros) | (refine gs_Z ?_ ?_ <;> (intro hgd; try (simp only [Bool.not_true, Bool.not_false] at hgd))) | (refine gc_Z ?_ ?_ <;> intro _) | fail)
    (refine rt_Z (y := ()) (hrs := Try.results155) (hv := ?_) (hφ := ?_))
    · rfl
    · trivial
  · have t1 : decide ((b.size : Int) < 8) = false := by simp; omega
    rw [if_neg h1]
    have z0 : (b.extract 0 4).size = 4 := by rw [ByteArray.size_extract]; omega
    have z1 : (b.extract 4 8).size = 4 := by rw [ByteArray.size_extract]; omega
    have hr := getU_range (b.extract 0 4)
    have hw := wrap_u32 hr.1 hr.2
    generalize hn : getU (b.extract 0 4) = n at hr hw
    have z2 : (b.extract 8 12).size = 4 ∨ b.size < 12 := by rw [ByteArray.size_extract]; omega
    cases h2 : (!decide (sumS (b.extract 0 4) = getU (b.extract 4 8))) with
    | true =>
      rw [if_pos (.inl (by simpa using h2))]
      refine spec_intro [] _ Try.func155 rfl Try.ntmps155 (by rfl) (fun w0 R => ?_)
      repeat' (first | (refine go_Z ?_; intros) | (refine gs_Z ?_ ?_ <;> (intro hgd; try (simp only [Bool.not_true, Bool.not_false] at hgd))) | (refine gc_Z ?_ ?_ <;> intro _) | fail)
      refine cl_Z (fget_spec (b.extract 0 4) (by omega) (by omega)) ?_
      intro _ _
      rw [hn]
      repeat' (first | (refine go_Z ?_; intros) | (refine gs_Z ?_ ?_ <;> (intro hgd; try (simp only [Bool.not_true, Bool.not_false] at hgd))) | (refine gc_Z ?_ ?_ <;> intro _) | fail)
      refine cl_Z (sum_spec (b.extract 0 4) (by omega)) ?_
      intro _ _
      repeat' (first | (refine go_Z ?_; intros) | (refine gs_Z ?_ ?_ <;> (intro hgd; try (simp only [Bool.not_true, Bool.not_false] at hgd))) | (refine gc_Z ?_ ?_ <;> intro _) | fail)
      refine cl_Z (fget_spec (b.extract 4 8) (by omega) (by omega)) ?_
      intro _ _
      repeat' (first | (refine go_Z ?_; intros) | (refine gs_Z ?_ ?_ <;> (intro hgd; try (simp only [Bool.not_true, Bool.not_false] at hgd))) | (refine gc_Z ?_ ?_ <;> intro _) | fail)
      (refine rt_Z (y := ()) (hrs := Try.results155) (hv := ?_) (hφ := ?_))
      · rfl
      · trivial
    | false =>
      have h2' : ¬ sumS (b.extract 0 4) ≠ getU (b.extract 4 8) := by simpa using h2
      cases h3 : decide ((4194304 : Int) < n) with
      | true =>
        rw [if_pos (.inr (by simpa using h3))]
        refine spec_intro [] _ Try.func155 rfl Try.ntmps155 (by rfl) (fun w0 R => ?_)
        repeat' (first | (refine go_Z ?_; intros) | (refine gs_Z ?_ ?_ <;> (intro hgd; try (simp only [Bool.not_true, Bool.not_false] at hgd))) | (refine gc_Z ?_ ?_ <;> intro _) | fail)
        refine cl_Z (fget_spec (b.extract 0 4) (by omega) (by omega)) ?_
        intro _ _
        rw [hn]
        repeat' (first | (refine go_Z ?_; intros) | (refine gs_Z ?_ ?_ <;> (intro hgd; try (simp only [Bool.not_true, Bool.not_false] at hgd))) | (refine gc_Z ?_ ?_ <;> intro _) | fail)
        refine cl_Z (sum_spec (b.extract 0 4) (by omega)) ?_
        intro _ _
        repeat' (first | (refine go_Z ?_; intros) | (refine gs_Z ?_ ?_ <;> (intro hgd; try (simp only [Bool.not_true, Bool.not_false] at hgd))) | (refine gc_Z ?_ ?_ <;> intro _) | fail)
        refine cl_Z (fget_spec (b.extract 4 8) (by omega) (by omega)) ?_
        intro _ _
        repeat' (first | (refine go_Z ?_; intros) | (refine gs_Z ?_ ?_ <;> (intro hgd; try (simp only [Bool.not_true, Bool.not_false] at hgd))) | (refine gc_Z ?_ ?_ <;> intro _) | fail)
        (refine rt_Z (y := ()) (hrs := Try.results155) (hv := ?_) (hφ := ?_))
        · rfl
        · trivial
      | false =>
        have h3' : n ≤ 4194304 := by simpa using h3
        rw [if_neg (not_or.2 ⟨h2', by omega⟩)]
        cases h4 : decide ((b.size : Int) < 12 + n) with
        | true =>
          rw [if_pos (by simpa using h4)]
          refine spec_intro [] _ Try.func155 rfl Try.ntmps155 (by rfl) (fun w0 R => ?_)
          repeat' (first | (refine go_Z ?_; intros) | (refine gs_Z ?_ ?_ <;> (intro hgd; try (simp only [Bool.not_true, Bool.not_false] at hgd))) | (refine gc_Z ?_ ?_ <;> intro _) | fail)
          refine cl_Z (fget_spec (b.extract 0 4) (by omega) (by omega)) ?_
          intro _ _
          rw [hn]
          repeat' (first | (refine go_Z ?_; intros) | (refine gs_Z ?_ ?_ <;> (intro hgd; try (simp only [Bool.not_true, Bool.not_false] at hgd))) | (refine gc_Z ?_ ?_ <;> intro _) | fail)
          refine cl_Z (sum_spec (b.extract 0 4) (by omega)) ?_
          intro _ _
          repeat' (first | (refine go_Z ?_; intros) | (refine gs_Z ?_ ?_ <;> (intro hgd; try (simp only [Bool.not_true, Bool.not_false] at hgd))) | (refine gc_Z ?_ ?_ <;> intro _) | fail)
          refine cl_Z (fget_spec (b.extract 4 8) (by omega) (by omega)) ?_
          intro _ _
          repeat' (first | (refine go_Z ?_; intros) | (refine gs_Z ?_ ?_ <;> (intro hgd; try (simp only [Bool.not_true, Bool.not_false] at hgd))) | (refine gc_Z ?_ ?_ <;> intro _) | fail)
          (refine rt_Z (y := ()) (hrs := Try.results155) (hv := ?_) (hφ := ?_))
          · rfl
          · trivial
        | false =>
          have h4' : 12 + n ≤ b.size := by simpa using h4
          rw [if_neg (by omega)]
          have z3 : (b.extract 12 (12 + n).toNat).size ≤ b.size := by rw [ByteArray.size_extract]; omega
          have z4 : (b.extract 8 12).size = 4 := by omega
          cases h5 : (!decide (sumS (b.extract 12 (12 + n).toNat) = getU (b.extract 8 12))) with
          | true =>
            rw [if_pos (by simpa using h5)]
            refine spec_intro [] _ Try.func155 rfl Try.ntmps155 (by rfl) (fun w0 R => ?_)
            repeat' (first | (refine go_Z ?_; intros) | (refine gs_Z ?_ ?_ <;> (intro hgd; try (simp only [Bool.not_true, Bool.not_false] at hgd))) | (refine gc_Z ?_ ?_ <;> intro _) | fail)
            refine cl_Z (fget_spec (b.extract 0 4) (by omega) (by omega)) ?_
            intro _ _
            rw [hn]
            repeat' (first | (refine go_Z ?_; intros) | (refine gs_Z ?_ ?_ <;> (intro hgd; try (simp only [Bool.not_true, Bool.not_false] at hgd))) | (refine gc_Z ?_ ?_ <;> intro _) | fail)
            refine cl_Z (sum_spec (b.extract 0 4) (by omega)) ?_
            intro _ _
            repeat' (first | (refine go_Z ?_; intros) | (refine gs_Z ?_ ?_ <;> (intro hgd; try (simp only [Bool.not_true, Bool.not_false] at hgd))) | (refine gc_Z ?_ ?_ <;> intro _) | fail)
            refine cl_Z (fget_spec (b.extract 4 8) (by omega) (by omega)) ?_
            intro _ _
            repeat' (first | (refine go_Z ?_; intros) | (refine gs_Z ?_ ?_ <;> (intro hgd; try (simp only [Bool.not_true, Bool.not_false] at hgd))) | (refine gc_Z ?_ ?_ <;> intro _) | fail)
            refine cl_Z (sum_spec (b.extract 12 (12 + n).toNat) (by omega)) ?_
            intro _ _
            repeat' (first | (refine go_Z ?_; intros) | (refine gs_Z ?_ ?_ <;> (intro hgd; try (simp only [Bool.not_true, Bool.not_false] at hgd))) | (refine gc_Z ?_ ?_ <;> intro _) | fail)
            refine cl_Z (fget_spec (b.extract 8 12) (by omega) (by omega)) ?_
            intro _ _
            repeat' (first | (refine go_Z ?_; intros) | (refine gs_Z ?_ ?_ <;> (intro hgd; try (simp only [Bool.not_true, Bool.not_false] at hgd))) | (refine gc_Z ?_ ?_ <;> intro _) | fail)
            (refine rt_Z (y := ()) (hrs := Try.results155) (hv := ?_) (hφ := ?_))
            · rfl
            · trivial
          | false =>
            rw [if_neg (by simpa using h5)]
            refine spec_intro [] _ Try.func155 rfl Try.ntmps155 (by rfl) (fun w0 R => ?_)
            repeat' (first | (refine go_Z ?_; intros) | (refine gs_Z ?_ ?_ <;> (intro hgd; try (simp only [Bool.not_true, Bool.not_false] at hgd))) | (refine gc_Z ?_ ?_ <;> intro _) | fail)
            refine cl_Z (fget_spec (b.extract 0 4) (by omega) (by omega)) ?_
            intro _ _
            rw [hn]
            repeat' (first | (refine go_Z ?_; intros) | (refine gs_Z ?_ ?_ <;> (intro hgd; try (simp only [Bool.not_true, Bool.not_false] at hgd))) | (refine gc_Z ?_ ?_ <;> intro _) | fail)
            refine cl_Z (sum_spec (b.extract 0 4) (by omega)) ?_
            intro _ _
            repeat' (first | (refine go_Z ?_; intros) | (refine gs_Z ?_ ?_ <;> (intro hgd; try (simp only [Bool.not_true, Bool.not_false] at hgd))) | (refine gc_Z ?_ ?_ <;> intro _) | fail)
            refine cl_Z (fget_spec (b.extract 4 8) (by omega) (by omega)) ?_
            intro _ _
            repeat' (first | (refine go_Z ?_; intros) | (refine gs_Z ?_ ?_ <;> (intro hgd; try (simp only [Bool.not_true, Bool.not_false] at hgd))) | (refine gc_Z ?_ ?_ <;> intro _) | fail)
            refine cl_Z (sum_spec (b.extract 12 (12 + n).toNat) (by omega)) ?_
            intro _ _
            repeat' (first | (refine go_Z ?_; intros) | (refine gs_Z ?_ ?_ <;> (intro hgd; try (simp only [Bool.not_true, Bool.not_false] at hgd))) | (refine gc_Z ?_ ?_ <;> intro _) | fail)
            refine cl_Z (fget_spec (b.extract 8 12) (by omega) (by omega)) ?_
            intro _ _
            repeat' (first | (refine go_Z ?_; intros) | (refine gs_Z ?_ ?_ <;> (intro hgd; try (simp only [Bool.not_true, Bool.not_false] at hgd))) | (refine gc_Z ?_ ?_ <;> intro _) | fail)
            (refine rt_Z (y := ()) (hrs := Try.results155) (hv := ?_) (hφ := ?_))
            · rfl
            · trivial
end Go.Proofs.Ytgmobpngcilgjaa
