/- The walks of the laws of mans: Same, Large, alive. -/
import Derived.Test.YtgmobpngcilgjaaMnR
-- @DEFS Z
set_option linter.unusedSimpArgs false
set_option linter.unusedVariables false
set_option maxRecDepth 4000
namespace Go.Proofs.Ytgmobpngcilgjaa
open Go Go.Fx Go.Proofs Go.Pl

/-- Are two the same? -/
def sameM (a b : Mn) : Bool := decide (a.wal = b.wal) && decide (a.next = b.next) && (a.runs == b.runs)

theorem Same_spec (a b : Mn) (u v : Value) (A B : HProp) (hA : Vw A 1 u (a.runs.map uV)) (hB : Vw B 1 v (b.runs.map uV)) (hz : a.runs.length ≤ 1099511627776) (hz2 : b.runs.length ≤ 1099511627776) :
    FSpec Try.prog 48 [.agg (manV a u).toArray, .agg (manV b v).toArray] [A, B] Unit (fun _ => True) (fun _ => .bool (sameM a b)) (fun _ => [A, B]) := by
  have la : (a.runs.map uV).length = a.runs.length := by simp
  have lb : (b.runs.map uV).length = b.runs.length := by simp
  cases u1 : (!decide (a.wal = b.wal)) with
  | true =>
    rw [show sameM a b = false by simp only [sameM]; simp only [Bool.not_eq_true'] at u1; rw [u1]; rfl]
    refine spec_intro [] _ Try.func48 rfl Try.ntmps48 (by rfl) (fun w0 R => ?_)
    repeat' (first | (refine go_Z ?_; intros) | (refine gs_Z ?_ ?_ <;> (intro hgd; try (simp only [Bool.not_true, Bool.not_false] at hgd))) | (refine gc_Z ?_ ?_ <;> intro _) | fail)
    (refine rt_Z (y := ()) (hrs := Try.results48) (hv := ?_) (hφ := ?_))
    · rfl
    · trivial
  | false =>
  cases u2 : (!decide (a.next = b.next)) with
  | true =>
    rw [show sameM a b = false by simp only [sameM]; simp only [Bool.not_eq_true'] at u2; rw [u2]; simp]
    refine spec_intro [] _ Try.func48 rfl Try.ntmps48 (by rfl) (fun w0 R => ?_)
    repeat' (first | (refine go_Z ?_; intros) | (refine gs_Z ?_ ?_ <;> (intro hgd; try (simp only [Bool.not_true, Bool.not_false] at hgd))) | (refine gc_Z ?_ ?_ <;> intro _) | fail)
    (refine rt_Z (y := ()) (hrs := Try.results48) (hv := ?_) (hφ := ?_))
    · rfl
    · trivial
  | false =>
  have hsm : sameM a b = (a.runs == b.runs) := by
    simp only [Bool.not_eq_false'] at u1 u2
    simp only [sameM, u1, u2, Bool.true_and]
  cases u3 : (!decide (((a.runs.map uV).length : Int) = ((b.runs.map uV).length : Int))) with
  | true =>
    rw [show sameM a b = false by
      rw [hsm]
      simp only [Bool.not_eq_true', decide_eq_false_iff_not] at u3
      rw [beq_eq_false_iff_ne]
      intro e; rw [e] at u3; simp at u3]
    refine spec_intro [] _ Try.func48 rfl Try.ntmps48 (by rfl) (fun w0 R => ?_)
    repeat' (first | (refine go_Z ?_; intros) | (refine gs_Z ?_ ?_ <;> (intro hgd; try (simp only [Bool.not_true, Bool.not_false] at hgd))) | (refine gc_Z ?_ ?_ <;> intro _) | fail)
    (refine rt_Z (y := ()) (hrs := Try.results48) (hv := ?_) (hφ := ?_))
    · rfl
    · trivial
  | false =>
    have hl : a.runs.length = b.runs.length := by simp at u3; omega
    refine spec_intro [] _ Try.func48 rfl Try.ntmps48 (by rfl) (fun w0 R => ?_)
    repeat' (first | (refine go_Z ?_; intros) | (refine gs_Z ?_ ?_ <;> (intro hgd; try (simp only [Bool.not_true, Bool.not_false] at hgd))) | (refine gc_Z ?_ ?_ <;> intro _) | fail)
    rename_i b2 b3
    refine ok_map (L' := [pts b2 (.cells (manV a u).toArray 63), pts b3 (.cells (manV b v).toArray 63), A, B] ++ R) entD ?_
    refine ok_loop' (γ := Nat) (fun i ρ L => i ≤ a.runs.length ∧ a.runs.take i = b.runs.take i ∧ Knows ρ [(2, .pointer (some ⟨b2, 0, none⟩)), (3, .pointer (some ⟨b3, 0, none⟩)), (5, .int .i64 i)] ∧ L = [pts b2 (.cells (manV a u).toArray 63), pts b3 (.cells (manV b v).toArray 63), A, B] ++ R) (fun i => a.runs.length - i) 0 ⟨by simp, by simp, ⟨rfl, rfl, rfl, trivial⟩, rfl⟩ ?_
    rintro i ρ L ⟨hi, heq, hk, rfl⟩
    refine ok_regs hk ?_
    cases t1 : decide ((i : Int) < ((a.runs.map uV).length : Int)) with
    | true =>
      have h : i < a.runs.length := by simp at t1; omega
      have h' : i < b.runs.length := by omega
      have hn1 : i < (a.runs.map uV).length := by omega
      have hn2 : i < (b.runs.map uV).length := by omega
      have hx : (a.runs.map uV)[i]? = some (uV a.runs[i]) := by rw [List.getElem?_map, List.getElem?_eq_getElem h]; rfl
      have hy : (b.runs.map uV)[i]? = some (uV b.runs[i]) := by rw [List.getElem?_map, List.getElem?_eq_getElem h']; rfl
      have ta : a.runs.take (i + 1) = a.runs.take i ++ [a.runs[i]] := by rw [List.take_add_one, List.getElem?_eq_getElem h]; rfl
      have tb : b.runs.take (i + 1) = b.runs.take i ++ [b.runs[i]] := by rw [List.take_add_one, List.getElem?_eq_getElem h']; rfl
      have hne : a.runs[i] ≠ b.runs[i] → (a.runs == b.runs) = false := by
        intro hne
        rw [beq_eq_false_iff_ne]
        intro e
        exact hne (by simp only [e])
      refine ok_learn (VwIn.slice (VwIn.there (VwIn.there (VwIn.here hA)))) ?_
      rintro ⟨pa, ca, rfl⟩
      refine ok_learn (VwIn.base (VwIn.there (VwIn.there (VwIn.here hA))) (by intro e; rw [e] at hn1; simp at hn1)) ?_
      rintro ⟨xa, oa, rfl⟩
      refine ok_learn (VwIn.slice (VwIn.there (VwIn.there (VwIn.there (VwIn.here hB))))) ?_
      rintro ⟨pb, cb, rfl⟩
      refine ok_learn (VwIn.base (VwIn.there (VwIn.there (VwIn.there (VwIn.here hB)))) (by intro e; rw [e] at hn2; simp at hn2)) ?_
      rintro ⟨xb, ob, rfl⟩
      generalize a.runs[i] = x at hx ta hne
      generalize b.runs[i] = y at hy tb hne
      cases u4 : (!decide (x = y)) with
      | true =>
        rw [hsm, hne (by simpa using u4)]
        repeat' (first | (refine go_Z ?_; intros) | (refine gs_Z ?_ ?_ <;> (intro hgd; try (simp only [Bool.not_true, Bool.not_false] at hgd))) | (refine gc_Z ?_ ?_ <;> intro _) | fail)
        (refine rt_Z (y := ()) (hrs := Try.results48) (hv := ?_) (hφ := ?_))
        · rfl
        · trivial
      | false =>
        have hxy : x = y := by simpa using u4
        repeat' (first | (refine go_Z ?_; intros) | (refine gs_Z ?_ ?_ <;> (intro hgd; try (simp only [Bool.not_true, Bool.not_false] at hgd))) | (refine gc_Z ?_ ?_ <;> intro _) | fail)
        refine cont_back (i + 1) ⟨h, by rw [ta, tb, heq, hxy], ⟨rfl, rfl, rfl, trivial⟩, rfl⟩ (by omega)
    | false =>
      have hie : i = a.runs.length := by simp at t1; omega
      subst hie
      rw [List.take_length, hl, List.take_length] at heq
      rw [hsm, show (a.runs == b.runs) = true by rw [heq]; simp]
      repeat' (first | (refine go_Z ?_; intros) | (refine gs_Z ?_ ?_ <;> (intro hgd; try (simp only [Bool.not_true, Bool.not_false] at hgd))) | (refine gc_Z ?_ ?_ <;> intro _) | fail)
      (refine rt_Z (y := ()) (hrs := Try.results48) (hv := ?_) (hφ := ?_))
      · rfl
      · trivial

theorem LargeM_spec (m : Mn) (v : Value) (A : HProp) (hA : Vw A 1 v (m.runs.map uV)) :
    FSpec Try.prog 41 [.agg (manV m v).toArray] [A] Unit (fun _ => True) (fun _ => .bool (decide (300 < ((m.runs.map uV).length : Int)))) (fun _ => [A]) := by
  refine spec_intro [] _ Try.func41 rfl Try.ntmps41 (by rfl) (fun w0 R => ?_)
  repeat' (first | (refine go_Z ?_; intros) | (refine gs_Z ?_ ?_ <;> (intro hgd; try (simp only [Bool.not_true, Bool.not_false] at hgd))) | (refine gc_Z ?_ ?_ <;> intro _) | fail)
  (refine rt_Z (y := ()) (hrs := Try.results41) (hv := ?_) (hφ := ?_))
  · rfl
  · trivial

theorem alive_man : FSpec Try.prog 42 [] [] Unit (fun _ => True) (fun _ => .bool true) (fun _ => []) := by
  refine spec_intro [] _ Try.func42 rfl Try.ntmps42 (by rfl) (fun w0 R => ?_)
  repeat' (first | (refine go_Z ?_; intros) | (refine gs_Z ?_ ?_ <;> (intro hgd; try (simp only [Bool.not_true, Bool.not_false] at hgd))) | (refine gc_Z ?_ ?_ <;> intro _) | fail)
  refine cl_Z (new_spec 1000 (by decide) (by decide)) ?_
  intro b _
  rw [show newD 1000 = M0 from rfl]
  repeat' (first | (refine go_Z ?_; intros) | (refine gs_Z ?_ ?_ <;> (intro hgd; try (simp only [Bool.not_true, Bool.not_false] at hgd))) | (refine gc_Z ?_ ?_ <;> intro _) | fail)
  refine opsL_map (fun _ h => rowNil (e := 60) (n := 1) h) ?_
  refine cl_Z (Save_spec b M0 nM mA (.slice none 0 0) (row 60 1 (.slice none 0 0) []) M0_ok (by decide) (by decide) Vw.row cap0 (by decide) mA_chk mA_wf) ?_
  intro _ _
  rw [M_a, show (saveD nM (mBytes mA) M0).1 = M1 from rfl]
  repeat' (first | (refine go_Z ?_; intros) | (refine gs_Z ?_ ?_ <;> (intro hgd; try (simp only [Bool.not_true, Bool.not_false] at hgd))) | (refine gc_Z ?_ ?_ <;> intro _) | fail)
  refine cl_Z (fuse_spec b M1 2) ?_
  intro _ _
  rw [show M1.fuseTo 2 = M2 from rfl]
  repeat' (first | (refine go_Z ?_; intros) | (refine gs_Z ?_ ?_ <;> (intro hgd; try (simp only [Bool.not_true, Bool.not_false] at hgd))) | (refine gc_Z ?_ ?_ <;> intro _) | fail)
  refine cl_Z (Save_spec b M2 nM mB (.slice none 0 0) (row 60 1 (.slice none 0 0) []) M2_ok.1 (by have := M2_ok.2; omega) (by decide) Vw.row cap0 (by decide) mB_chk mB_wf) ?_
  intro _ _
  rw [M_b, show (saveD nM (mBytes mB) M2).1 = M3 from rfl]
  repeat' (first | (refine go_Z ?_; intros) | (refine gs_Z ?_ ?_ <;> (intro hgd; try (simp only [Bool.not_true, Bool.not_false] at hgd))) | (refine gc_Z ?_ ?_ <;> intro _) | fail)
  refine cl_Z (crash_spec b M3 0 0 M3_ok.1 (by have := M3_ok.2; omega)) ?_
  intro _ _
  rw [show M3.crash 0 0 = M4 from rfl]
  repeat' (first | (refine go_Z ?_; intros) | (refine gs_Z ?_ ?_ <;> (intro hgd; try (simp only [Bool.not_true, Bool.not_false] at hgd))) | (refine gc_Z ?_ ?_ <;> intro _) | fail)
  refine cl_Z (Load_spec b M4 nM M4_ok (by decide)) ?_
  rintro ⟨v1, hv1⟩ _
  rw [M_f, M_l]
  repeat' (first | (refine go_Z ?_; intros) | (refine gs_Z ?_ ?_ <;> (intro hgd; try (simp only [Bool.not_true, Bool.not_false] at hgd))) | (refine gc_Z ?_ ?_ <;> intro _) | fail)
  refine cl_Z (Load_spec b M4 nX M4_ok (by decide)) ?_
  rintro ⟨v2, hv2⟩ _
  rw [M_g]
  repeat' (first | (refine go_Z ?_; intros) | (refine gs_Z ?_ ?_ <;> (intro hgd; try (simp only [Bool.not_true, Bool.not_false] at hgd))) | (refine gc_Z ?_ ?_ <;> intro _) | fail)
  refine cl_Z (Same_spec mA mA v1 (.slice none 0 0) (row 60 1 v1 (mA.runs.map uV)) (row 60 1 (.slice none 0 0) []) Vw.row Vw.row (by decide) (by decide)) ?_
  intro _ _
  rw [show sameM mA mA = true by decide]
  repeat' (first | (refine go_Z ?_; intros) | (refine gs_Z ?_ ?_ <;> (intro hgd; try (simp only [Bool.not_true, Bool.not_false] at hgd))) | (refine gc_Z ?_ ?_ <;> intro _) | fail)
  refine cl_Z (Check_spec mn0 (.slice none 0 0) (row 60 1 (.slice none 0 0) []) Vw.row cap0 (by decide)) ?_
  intro _ _
  rw [m0_chk]
  repeat' (first | (refine go_Z ?_; intros) | (refine gs_Z ?_ ?_ <;> (intro hgd; try (simp only [Bool.not_true, Bool.not_false] at hgd))) | (refine gc_Z ?_ ?_ <;> intro _) | fail)
  (refine rt_Z (y := ()) (hrs := Try.results42) (hv := ?_) (hφ := ?_))
  · rfl
  · trivial

/-! ### ManNil -/
theorem ManNil_spec (m : Mn) (v : Value) (A : HProp) (nm : BA) (hA : Vw A 1 v (m.runs.map uV)) (hn : nm.size ≤ 4611686018427387904) :
    FSpec Try.prog 7 [.agg (manV m v).toArray, .string nm] [A] Unit (fun _ => True) (fun _ => .bool true) (fun _ => [A]) := by
  cases t1 : decide (300 < ((m.runs.map uV).length : Int)) with
  | true =>
    refine spec_intro [] _ Try.func7 rfl Try.ntmps7 (by rfl) (fun w0 R => ?_)
    repeat' (first | (refine go_Z ?_; intros) | (refine gs_Z ?_ ?_ <;> (intro hgd; try (simp only [Bool.not_true, Bool.not_false] at hgd))) | (refine gc_Z ?_ ?_ <;> intro _) | fail)
    refine cl_Z (LargeM_spec m v A hA) ?_
    intro _ _
    rw [t1]
    repeat' (first | (refine go_Z ?_; intros) | (refine gs_Z ?_ ?_ <;> (intro hgd; try (simp only [Bool.not_true, Bool.not_false] at hgd))) | (refine gc_Z ?_ ?_ <;> intro _) | fail)
    refine cl_Z (alive_man) ?_
    intro _ _
    repeat' (first | (refine go_Z ?_; intros) | (refine gs_Z ?_ ?_ <;> (intro hgd; try (simp only [Bool.not_true, Bool.not_false] at hgd))) | (refine gc_Z ?_ ?_ <;> intro _) | fail)
    (refine rt_Z (y := ()) (hrs := Try.results7) (hv := ?_) (hφ := ?_))
    · rfl
    · trivial
  | false =>
  cases t2 : decide (100 < (nm.size : Int)) with
  | true =>
    refine spec_intro [] _ Try.func7 rfl Try.ntmps7 (by rfl) (fun w0 R => ?_)
    repeat' (first | (refine go_Z ?_; intros) | (refine gs_Z ?_ ?_ <;> (intro hgd; try (simp only [Bool.not_true, Bool.not_false] at hgd))) | (refine gc_Z ?_ ?_ <;> intro _) | fail)
    refine cl_Z (LargeM_spec m v A hA) ?_
    intro _ _
    rw [t1]
    repeat' (first | (refine go_Z ?_; intros) | (refine gs_Z ?_ ?_ <;> (intro hgd; try (simp only [Bool.not_true, Bool.not_false] at hgd))) | (refine gc_Z ?_ ?_ <;> intro _) | fail)
    refine cl_Z (alive_man) ?_
    intro _ _
    repeat' (first | (refine go_Z ?_; intros) | (refine gs_Z ?_ ?_ <;> (intro hgd; try (simp only [Bool.not_true, Bool.not_false] at hgd))) | (refine gc_Z ?_ ?_ <;> intro _) | fail)
    (refine rt_Z (y := ()) (hrs := Try.results7) (hv := ?_) (hφ := ?_))
    · rfl
    · trivial
  | false =>
    refine spec_intro [] _ Try.func7 rfl Try.ntmps7 (by rfl) (fun w0 R => ?_)
    repeat' (first | (refine go_Z ?_; intros) | (refine gs_Z ?_ ?_ <;> (intro hgd; try (simp only [Bool.not_true, Bool.not_false] at hgd))) | (refine gc_Z ?_ ?_ <;> intro _) | fail)
    refine cl_Z (LargeM_spec m v A hA) ?_
    intro _ _
    rw [t1]
    repeat' (first | (refine go_Z ?_; intros) | (refine gs_Z ?_ ?_ <;> (intro hgd; try (simp only [Bool.not_true, Bool.not_false] at hgd))) | (refine gc_Z ?_ ?_ <;> intro _) | fail)
    refine cl_Z (Load_nil nm) ?_
    intro _ _
    repeat' (first | (refine go_Z ?_; intros) | (refine gs_Z ?_ ?_ <;> (intro hgd; try (simp only [Bool.not_true, Bool.not_false] at hgd))) | (refine gc_Z ?_ ?_ <;> intro _) | fail)
    refine opsL_map (fun _ h => rowNil (e := 60) (n := 1) (rowNil (e := 60) (n := 1) h)) ?_
    refine cl_Z (Save_nil nm m v) ?_
    intro _ _
    repeat' (first | (refine go_Z ?_; intros) | (refine gs_Z ?_ ?_ <;> (intro hgd; try (simp only [Bool.not_true, Bool.not_false] at hgd))) | (refine gc_Z ?_ ?_ <;> intro _) | fail)
    refine cl_Z (Same_spec mn0 mn0 (.slice none 0 0) (.slice none 0 0) (row 60 1 (.slice none 0 0) []) (row 60 1 (.slice none 0 0) []) Vw.row Vw.row (by decide) (by decide)) ?_
    intro _ _
    rw [show sameM mn0 mn0 = true by decide]
    repeat' (first | (refine go_Z ?_; intros) | (refine gs_Z ?_ ?_ <;> (intro hgd; try (simp only [Bool.not_true, Bool.not_false] at hgd))) | (refine gc_Z ?_ ?_ <;> intro _) | fail)
    refine cl_Z (alive_man) ?_
    intro _ _
    repeat' (first | (refine go_Z ?_; intros) | (refine gs_Z ?_ ?_ <;> (intro hgd; try (simp only [Bool.not_true, Bool.not_false] at hgd))) | (refine gc_Z ?_ ?_ <;> intro _) | fail)
    (refine rt_Z (y := ()) (hrs := Try.results7) (hv := ?_) (hφ := ?_))
    · rfl
    · trivial
end Go.Proofs.Ytgmobpngcilgjaa
