/- ManTells: the walk. -/
import Derived.Test.YtgmobpngcilgjaaR11A
import Derived.Test.YtgmobpngcilgjaaMnE
-- @DEFS Y
set_option linter.unusedSimpArgs false
set_option linter.unusedVariables false
set_option maxRecDepth 4000
namespace Go.Proofs.Ytgmobpngcilgjaa
open Go Go.Fx Go.Proofs Go.Pl

theorem getM_few (s : BA) : (getM s).1.runs.length ≤ 256 := by
  unfold getM
  split
  · simp [mn0]
  · unfold getM1
    split
    · rename_i t _
      by_cases h : takeM t = true
      · rw [if_pos h]
        unfold takeM at h
        rw [Bool.and_eq_true] at h
        have := Mn.chk_head h.2
        simp only [Mn.head, Bool.or_eq_false_iff, decide_eq_false_iff_not] at this
        dsimp only; omega
      · rw [if_neg h]; simp [mn0]
    · simp [mn0]
theorem sameM_self (m : Mn) : sameM m m = true := by simp [sameM]
theorem mBytes_size (m : Mn) : (mBytes m).size = 12 + 8 * (3 + m.runs.length) := by
  unfold mBytes mBody
  rw [frameOf_size, put8s_size]
  simp [mNums]; omega

set_option maxHeartbeats 1000000 in
theorem ManTells_spec (m : Mn) (v : Value) (A : HProp) (s : BA) (hA : Vw A 1 v (m.runs.map uV)) (hw : m.wf) (hs : s.size ≤ 140737488355328) :
    FSpec Try.prog 6 [.agg (manV m v).toArray, .string s] [A] Unit (fun _ => True) (fun _ => .bool true) (fun _ => [A]) := by
  have hlen : (m.runs.map uV).length = m.runs.length := by simp
  have hla := LargeM_spec m v A hA
  cases t1 : decide (300 < ((m.runs.map uV).length : Int)) with
  | true =>
    rw [t1] at hla
    refine spec_intro [] _ Try.func6 rfl Try.ntmps6 (by rfl) (fun w0 R => ?_)
    repeat' (first | (refine go_Y ?_; intros) | (refine gs_Y ?_ ?_ <;> (intro hgd; try (simp only [Bool.not_true, Bool.not_false] at hgd))) | (refine gc_Y ?_ ?_ <;> intro _) | fail)
    refine cl_Y (hla) ?_
    intro _ _
    repeat' (first | (refine go_Y ?_; intros) | (refine gs_Y ?_ ?_ <;> (intro hgd; try (simp only [Bool.not_true, Bool.not_false] at hgd))) | (refine gc_Y ?_ ?_ <;> intro _) | fail)
    refine cl_Y (alive_man) ?_
    intro _ _
    repeat' (first | (refine go_Y ?_; intros) | (refine gs_Y ?_ ?_ <;> (intro hgd; try (simp only [Bool.not_true, Bool.not_false] at hgd))) | (refine gc_Y ?_ ?_ <;> intro _) | fail)
    (refine rt_Y (y := ()) (hrs := Try.results6) (hv := ?_) (hφ := ?_))
    · rfl
    · trivial
  | false =>
  rw [t1] at hla
  have h300 : m.runs.length ≤ 300 := by have := of_decide_eq_false t1; omega
  cases t2 : decide ((16384 : Int) < (s.size : Int)) with
  | true =>
    refine spec_intro [] _ Try.func6 rfl Try.ntmps6 (by rfl) (fun w0 R => ?_)
    repeat' (first | (refine go_Y ?_; intros) | (refine gs_Y ?_ ?_ <;> (intro hgd; try (simp only [Bool.not_true, Bool.not_false] at hgd))) | (refine gc_Y ?_ ?_ <;> intro _) | fail)
    refine cl_Y (hla) ?_
    intro _ _
    repeat' (first | (refine go_Y ?_; intros) | (refine gs_Y ?_ ?_ <;> (intro hgd; try (simp only [Bool.not_true, Bool.not_false] at hgd))) | (refine gc_Y ?_ ?_ <;> intro _) | fail)
    refine cl_Y (alive_man) ?_
    intro _ _
    repeat' (first | (refine go_Y ?_; intros) | (refine gs_Y ?_ ?_ <;> (intro hgd; try (simp only [Bool.not_true, Bool.not_false] at hgd))) | (refine gc_Y ?_ ?_ <;> intro _) | fail)
    (refine rt_Y (y := ()) (hrs := Try.results6) (hv := ?_) (hφ := ?_))
    · rfl
    · trivial
  | false =>
  have hsz : s.size ≤ 16384 := by have := of_decide_eq_false t2; omega
  have hg1 := mGet_spec s (by omega)
  have hg2 := refGet11_spec s (by omega)
  have hfew := getM_few s
  generalize getM s = gs at hg1 hg2 hfew
  obtain ⟨gm, ge⟩ := gs
  dsimp only at hg1 hg2 hfew
  have hee : (!decide (ge = ge)) = false := by simp
  have hnn : (!((⟨#[]⟩ : BA).toList == (⟨#[]⟩ : BA).toList)) = false := by simp
  refine spec_intro [] _ Try.func6 rfl Try.ntmps6 (by rfl) (fun w0 R => ?_)
  refine ok_learn (VwIn.slice (VwIn.here hA)) ?_
  rintro ⟨pu, cu, rfl⟩
  repeat' (first | (refine go_Y ?_; intros) | (refine gs_Y ?_ ?_ <;> (intro hgd; try (simp only [Bool.not_true, Bool.not_false] at hgd))) | (refine gc_Y ?_ ?_ <;> intro _) | fail)
  rename_i bm
  refine cl_Y (hla) ?_
  intro _ _
  repeat' (first | (refine go_Y ?_; intros) | (refine gs_Y ?_ ?_ <;> (intro hgd; try (simp only [Bool.not_true, Bool.not_false] at hgd))) | (refine gc_Y ?_ ?_ <;> intro _) | fail)
  rename_i bo
  refine opsL_map (fun _ h => rowNil (e := 60) (n := 1) h) ?_
  repeat' (first | (refine go_Y ?_; intros) | (refine gs_Y ?_ ?_ <;> (intro hgd; try (simp only [Bool.not_true, Bool.not_false] at hgd))) | (refine gc_Y ?_ ?_ <;> intro _) | fail)
  rename_i v' hv'
  refine opsL_map (L' := [row 60 1 v' (m.runs.map uV), pts bo (.cells (manV m v').toArray 63), pts bm (.cells (manV m (.slice pu (m.runs.map uV).length cu)).toArray 63), A] ++ R) entD ?_
  refine ops_learn (row_cases takeD) ?_
  intro hrow
  have hcap : capOk v' := by
    rcases hrow with ⟨rfl, _⟩ | ⟨g, c, rfl, hc⟩
    · exact ⟨none, 0, 0, rfl, Nat.le_refl _⟩
    · exact ⟨_, _, _, rfl, hc⟩
  clear hrow
  have hck := Check_spec m v' (row 60 1 v' (m.runs.map uV)) Vw.row hcap (by omega)
  have hsame := Same_spec m m v' (.slice pu (m.runs.map uV).length cu) (row 60 1 v' (m.runs.map uV)) A Vw.row hA (by omega) (by omega)
  rw [sameM_self] at hsame
  cases hc : m.chk with
  | false =>
    rw [hc] at hck
    dsimp only [cond_false] at hck
    refine cl_Y (hck) ?_
    intro _ _
    repeat' (first | (refine go_Y ?_; intros) | (refine gs_Y ?_ ?_ <;> (intro hgd; try (simp only [Bool.not_true, Bool.not_false] at hgd))) | (refine gc_Y ?_ ?_ <;> intro _) | fail)
    refine cl_Y (mPut_bad m v' (row 60 1 v' (m.runs.map uV)) Vw.row hcap (by omega) hc) ?_
    intro _ _
    repeat' (first | (refine go_Y ?_; intros) | (refine gs_Y ?_ ?_ <;> (intro hgd; try (simp only [Bool.not_true, Bool.not_false] at hgd))) | (refine gc_Y ?_ ?_ <;> intro _) | fail)
    refine cl_Y (refPut11_bad m (.slice pu (m.runs.map uV).length cu) A hA (by omega) hc) ?_
    intro _ _
    repeat' (first | (refine go_Y ?_; intros) | (refine gs_Y ?_ ?_ <;> (intro hgd; try (simp only [Bool.not_true, Bool.not_false] at hgd))) | (refine gc_Y ?_ ?_ <;> intro _) | fail)
    refine cl_Y (hg1) ?_
    rintro ⟨v1, hv1⟩ _
    repeat' (first | (refine go_Y ?_; intros) | (refine gs_Y ?_ ?_ <;> (intro hgd; try (simp only [Bool.not_true, Bool.not_false] at hgd))) | (refine gc_Y ?_ ?_ <;> intro _) | fail)
    refine cl_Y (hg2) ?_
    rintro ⟨⟨v2, hv2⟩, P2⟩ hP2
    dsimp only at hP2 ⊢
    have hsg := Same_spec gm gm v1 v2 (row 60 1 v1 (gm.runs.map uV)) P2 Vw.row hP2 (by omega) (by omega)
    rw [sameM_self] at hsg
    repeat' (first | (refine go_Y ?_; intros) | (refine gs_Y ?_ ?_ <;> (intro hgd; try (simp only [Bool.not_true, Bool.not_false] at hgd))) | (refine gc_Y ?_ ?_ <;> intro _) | fail)
    refine cl_Y (hsame) ?_
    intro _ _
    repeat' (first | (refine go_Y ?_; intros) | (refine gs_Y ?_ ?_ <;> (intro hgd; try (simp only [Bool.not_true, Bool.not_false] at hgd))) | (refine gc_Y ?_ ?_ <;> intro _) | fail)
    refine cl_Y (hsg) ?_
    intro _ _
    repeat' (first | (refine go_Y ?_; intros) | (refine gs_Y ?_ ?_ <;> (intro hgd; try (simp only [Bool.not_true, Bool.not_false] at hgd))) | (refine gc_Y ?_ ?_ <;> intro _) | fail)
    refine cl_Y (alive_man) ?_
    intro _ _
    repeat' (first | (refine go_Y ?_; intros) | (refine gs_Y ?_ ?_ <;> (intro hgd; try (simp only [Bool.not_true, Bool.not_false] at hgd))) | (refine gc_Y ?_ ?_ <;> intro _) | fail)
    (refine rt_Y (y := ()) (hrs := Try.results6) (hv := ?_) (hφ := ?_))
    · rfl
    · trivial
  | true =>
    rw [hc] at hck
    dsimp only [cond_true] at hck
    have hp1 := mPut_spec m v' (row 60 1 v' (m.runs.map uV)) Vw.row hcap (by omega) hc hw
    have hp2 := refPut11_spec m (.slice pu (m.runs.map uV).length cu) A hA (by omega) hc hw
    have hg3 := mGet_spec (mBytes m) (by rw [mBytes_size]; omega)
    rw [getM_put hc hw] at hg3
    have hbb : (!((mBytes m).toList == (mBytes m).toList)) = false := by simp
    generalize mBytes m = B at hp1 hp2 hg3 hbb
    refine cl_Y (hck) ?_
    intro _ _
    repeat' (first | (refine go_Y ?_; intros) | (refine gs_Y ?_ ?_ <;> (intro hgd; try (simp only [Bool.not_true, Bool.not_false] at hgd))) | (refine gc_Y ?_ ?_ <;> intro _) | fail)
    refine cl_Y (hp1) ?_
    intro _ _
    repeat' (first | (refine go_Y ?_; intros) | (refine gs_Y ?_ ?_ <;> (intro hgd; try (simp only [Bool.not_true, Bool.not_false] at hgd))) | (refine gc_Y ?_ ?_ <;> intro _) | fail)
    refine cl_Y (hp2) ?_
    intro _ _
    repeat' (first | (refine go_Y ?_; intros) | (refine gs_Y ?_ ?_ <;> (intro hgd; try (simp only [Bool.not_true, Bool.not_false] at hgd))) | (refine gc_Y ?_ ?_ <;> intro _) | fail)
    refine cl_Y (hg1) ?_
    rintro ⟨v1, hv1⟩ _
    repeat' (first | (refine go_Y ?_; intros) | (refine gs_Y ?_ ?_ <;> (intro hgd; try (simp only [Bool.not_true, Bool.not_false] at hgd))) | (refine gc_Y ?_ ?_ <;> intro _) | fail)
    refine cl_Y (hg2) ?_
    rintro ⟨⟨v2, hv2⟩, P2⟩ hP2
    dsimp only at hP2 ⊢
    have hsg := Same_spec gm gm v1 v2 (row 60 1 v1 (gm.runs.map uV)) P2 Vw.row hP2 (by omega) (by omega)
    rw [sameM_self] at hsg
    repeat' (first | (refine go_Y ?_; intros) | (refine gs_Y ?_ ?_ <;> (intro hgd; try (simp only [Bool.not_true, Bool.not_false] at hgd))) | (refine gc_Y ?_ ?_ <;> intro _) | fail)
    refine cl_Y (hsame) ?_
    intro _ _
    repeat' (first | (refine go_Y ?_; intros) | (refine gs_Y ?_ ?_ <;> (intro hgd; try (simp only [Bool.not_true, Bool.not_false] at hgd))) | (refine gc_Y ?_ ?_ <;> intro _) | fail)
    refine cl_Y (hsg) ?_
    intro _ _
    repeat' (first | (refine go_Y ?_; intros) | (refine gs_Y ?_ ?_ <;> (intro hgd; try (simp only [Bool.not_true, Bool.not_false] at hgd))) | (refine gc_Y ?_ ?_ <;> intro _) | fail)
    refine cl_Y (hg3) ?_
    rintro ⟨v3, hv3⟩ _
    have hs3 := Same_spec m m v3 (.slice pu (m.runs.map uV).length cu) (row 60 1 v3 (m.runs.map uV)) A Vw.row hA (by omega) (by omega)
    rw [sameM_self] at hs3
    repeat' (first | (refine go_Y ?_; intros) | (refine gs_Y ?_ ?_ <;> (intro hgd; try (simp only [Bool.not_true, Bool.not_false] at hgd))) | (refine gc_Y ?_ ?_ <;> intro _) | fail)
    refine cl_Y (hs3) ?_
    intro _ _
    repeat' (first | (refine go_Y ?_; intros) | (refine gs_Y ?_ ?_ <;> (intro hgd; try (simp only [Bool.not_true, Bool.not_false] at hgd))) | (refine gc_Y ?_ ?_ <;> intro _) | fail)
    refine cl_Y (alive_man) ?_
    intro _ _
    repeat' (first | (refine go_Y ?_; intros) | (refine gs_Y ?_ ?_ <;> (intro hgd; try (simp only [Bool.not_true, Bool.not_false] at hgd))) | (refine gc_Y ?_ ?_ <;> intro _) | fail)
    (refine rt_Y (y := ()) (hrs := Try.results6) (hv := ?_) (hφ := ?_))
    · rfl
    · trivial
end Go.Proofs.Ytgmobpngcilgjaa
