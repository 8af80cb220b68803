/- The walk of wal.Open, where it opens. -/
import Derived.Test.YtgmobpngcilgjaaWlA
-- @DEFS Z
set_option linter.unusedSimpArgs false
set_option linter.unusedVariables false
set_option maxRecDepth 4000
namespace Go.Proofs.Ytgmobpngcilgjaa
open Go Go.Fx Go.Proofs Go.Pl

set_option maxHeartbeats 1000000 in
theorem Open_good (b : Nat) (d : Dk) (nm : BA) (hd : d.Ok) (hl : d.loose.length ≤ 1000000000) (hn : nm.size ≤ 4611686018427387904) (he : (openW d nm).2.1 = 0) :
    FSpec Try.prog 34 [.pointer (some ⟨b, 0, none⟩), .string nm] [diskP b d] (Nat × { v : Value // v.oneCell' = true }) (fun _ => True) (fun y => .tuple #[.pointer (some ⟨y.1, 0, none⟩), y.2.1, .int .i64 0])
      (fun y => [diskP b (openW d nm).1, walP y.1 b nm ⟨(openW d nm).2.2.1.length, (openW d nm).2.2.2, 0⟩, row 9 1 y.2.1 ((openW d nm).2.2.1.map strV)]) := by
  have hr := read_spec b d nm 0 16777216 hn
  have hz := read_size d nm 16777216 (by decide)
  have hse := scan_e (d.read nm 0 16777216).1
  have hS := Scan_spec (d.read nm 0 16777216).1 (by omega)
  have hT := truncate_spec b d nm ((scanOf (d.read nm 0 16777216).1).2.1 : Int) hd (by omega) hn
  have hTo : (d.truncate nm ((scanOf (d.read nm 0 16777216).1).2.1 : Int)).1.Ok := hd.truncate
  have hsl := scanF_len (d.read nm 0 16777216).1.size (d.read nm 0 16777216).1
  rw [show scanF (d.read nm 0 16777216).1.size (d.read nm 0 16777216).1 = scanOf (d.read nm 0 16777216).1 from rfl] at hsl
  unfold openW openT at he ⊢
  generalize d.read nm 0 16777216 = rd at hr hz he hse hS hT hTo hsl
  obtain ⟨s, e⟩ := rd
  dsimp only at hr hz he hse hS hT hTo hsl ⊢
  generalize scanOf s = sc at he hse hS hT hTo hsl
  obtain ⟨l, good, es⟩ := sc
  dsimp only at he hse hS hT hTo hsl ⊢
  generalize d.truncate nm (good : Int) = tr at he hT hTo
  obtain ⟨d1, et⟩ := tr
  dsimp only at he hT hTo ⊢
  have hln : ((l.map strV).length : Int) = (l.length : Int) := by simp
  by_cases h1 : e ≠ 0 ∧ e ≠ 3
  · rw [if_pos h1] at he
    exact absurd he h1.1
  · rw [if_neg h1] at he ⊢
    have hgo : ∀ (G : Prop), ((!decide (e = 0)) = false → G) → ((!decide (e = 0)) = true → (!decide (e = 3)) = false → G) → G := by
      intro G g1 g2
      cases u1 : (!decide (e = 0)) with
      | false => exact g1 u1
      | true => exact g2 u1 (by simp at u1 h1 ⊢; exact h1 u1)
    rcases hse with rfl | rfl | rfl
    · simp only [Int.reduceEq, if_false, if_true, ne_eq, not_true_eq_false] at he ⊢
      unfold openS at he ⊢
      cases t1 : decide (0 < (d.loose.length : Int)) with
      | false =>
        have h0 : ¬ 0 < d.loose.length := by have := of_decide_eq_false t1; omega
        simp only [h0, if_false, not_true_eq_false] at he ⊢
        refine hgo _ (fun u1 => ?_) (fun u1 u2 => ?_)
        all_goals
          refine spec_intro [] _ Try.func34 rfl Try.ntmps34 (by rfl) (fun w0 R => ?_)
          repeat' (first | (refine go_Z ?_; intros) | (refine gs_Z ?_ ?_ <;> (intro hgd; try (simp only [Bool.not_true, Bool.not_false] at hgd))) | (refine gc_Z ?_ ?_ <;> intro _) | fail)
          refine cl_Z (hr) ?_
          intro _ _
          repeat' (first | (refine go_Z ?_; intros) | (refine gs_Z ?_ ?_ <;> (intro hgd; try (simp only [Bool.not_true, Bool.not_false] at hgd))) | (refine gc_Z ?_ ?_ <;> intro _) | fail)
          refine cl_Z (hS) ?_
          rintro ⟨v, hv⟩ _
          repeat' (first | (refine go_Z ?_; intros) | (refine gs_Z ?_ ?_ <;> (intro hgd; try (simp only [Bool.not_true, Bool.not_false] at hgd))) | (refine gc_Z ?_ ?_ <;> intro _) | fail)
          refine cl_Z (Loose_spec b d) ?_
          intro _ _
          repeat' (first | (refine go_Z ?_; intros) | (refine gs_Z ?_ ?_ <;> (intro hgd; try (simp only [Bool.not_true, Bool.not_false] at hgd))) | (refine gc_Z ?_ ?_ <;> intro _) | fail)
          rename_i wb
          rw [hln]
          (refine rt_Z (y := (wb, ⟨v, hv⟩)) (hrs := Try.results34) (hv := ?_) (hφ := ?_))
          · rfl
          · trivial
      | true =>
        have h0 : 0 < d.loose.length := by have := of_decide_eq_true t1; omega
        simp only [h0, if_true] at he ⊢
        have hy := sync_spec b d hd
        generalize d.sync = sy at he hy
        obtain ⟨d2, ey⟩ := sy
        dsimp only at he hy ⊢
        have hey : ey = 0 := by
          by_cases h : ey = 0
          · exact h
          · rw [if_pos h] at he; exact absurd he h
        subst hey
        simp only [not_true_eq_false, if_false]
        refine hgo _ (fun u1 => ?_) (fun u1 u2 => ?_)
        all_goals
          refine spec_intro [] _ Try.func34 rfl Try.ntmps34 (by rfl) (fun w0 R => ?_)
          repeat' (first | (refine go_Z ?_; intros) | (refine gs_Z ?_ ?_ <;> (intro hgd; try (simp only [Bool.not_true, Bool.not_false] at hgd))) | (refine gc_Z ?_ ?_ <;> intro _) | fail)
          refine cl_Z (hr) ?_
          intro _ _
          repeat' (first | (refine go_Z ?_; intros) | (refine gs_Z ?_ ?_ <;> (intro hgd; try (simp only [Bool.not_true, Bool.not_false] at hgd))) | (refine gc_Z ?_ ?_ <;> intro _) | fail)
          refine cl_Z (hS) ?_
          rintro ⟨v, hv⟩ _
          repeat' (first | (refine go_Z ?_; intros) | (refine gs_Z ?_ ?_ <;> (intro hgd; try (simp only [Bool.not_true, Bool.not_false] at hgd))) | (refine gc_Z ?_ ?_ <;> intro _) | fail)
          refine cl_Z (Loose_spec b d) ?_
          intro _ _
          repeat' (first | (refine go_Z ?_; intros) | (refine gs_Z ?_ ?_ <;> (intro hgd; try (simp only [Bool.not_true, Bool.not_false] at hgd))) | (refine gc_Z ?_ ?_ <;> intro _) | fail)
          refine cl_Z (hy) ?_
          intro _ _
          repeat' (first | (refine go_Z ?_; intros) | (refine gs_Z ?_ ?_ <;> (intro hgd; try (simp only [Bool.not_true, Bool.not_false] at hgd))) | (refine gc_Z ?_ ?_ <;> intro _) | fail)
          rename_i wb
          rw [hln]
          (refine rt_Z (y := (wb, ⟨v, hv⟩)) (hrs := Try.results34) (hv := ?_) (hφ := ?_))
          · rfl
          · trivial
    · simp only [Int.reduceEq, if_false, if_true, ne_eq, not_true_eq_false] at he ⊢
      have het : et = 0 := by
        by_cases h : et = 0
        · exact h
        · rw [if_pos h] at he; exact absurd he h
      subst het
      simp only [not_true_eq_false, if_false] at he ⊢
      unfold openS at he ⊢
      cases t1 : decide (0 < (d1.loose.length : Int)) with
      | false =>
        have h0 : ¬ 0 < d1.loose.length := by have := of_decide_eq_false t1; omega
        simp only [h0, if_false, not_true_eq_false] at he ⊢
        refine hgo _ (fun u1 => ?_) (fun u1 u2 => ?_)
        all_goals
          refine spec_intro [] _ Try.func34 rfl Try.ntmps34 (by rfl) (fun w0 R => ?_)
          repeat' (first | (refine go_Z ?_; intros) | (refine gs_Z ?_ ?_ <;> (intro hgd; try (simp only [Bool.not_true, Bool.not_false] at hgd))) | (refine gc_Z ?_ ?_ <;> intro _) | fail)
          refine cl_Z (hr) ?_
          intro _ _
          repeat' (first | (refine go_Z ?_; intros) | (refine gs_Z ?_ ?_ <;> (intro hgd; try (simp only [Bool.not_true, Bool.not_false] at hgd))) | (refine gc_Z ?_ ?_ <;> intro _) | fail)
          refine cl_Z (hS) ?_
          rintro ⟨v, hv⟩ _
          repeat' (first | (refine go_Z ?_; intros) | (refine gs_Z ?_ ?_ <;> (intro hgd; try (simp only [Bool.not_true, Bool.not_false] at hgd))) | (refine gc_Z ?_ ?_ <;> intro _) | fail)
          refine cl_Z (hT) ?_
          intro _ _
          repeat' (first | (refine go_Z ?_; intros) | (refine gs_Z ?_ ?_ <;> (intro hgd; try (simp only [Bool.not_true, Bool.not_false] at hgd))) | (refine gc_Z ?_ ?_ <;> intro _) | fail)
          refine cl_Z (Loose_spec b d1) ?_
          intro _ _
          repeat' (first | (refine go_Z ?_; intros) | (refine gs_Z ?_ ?_ <;> (intro hgd; try (simp only [Bool.not_true, Bool.not_false] at hgd))) | (refine gc_Z ?_ ?_ <;> intro _) | fail)
          rename_i wb
          rw [hln]
          (refine rt_Z (y := (wb, ⟨v, hv⟩)) (hrs := Try.results34) (hv := ?_) (hφ := ?_))
          · rfl
          · trivial
      | true =>
        have h0 : 0 < d1.loose.length := by have := of_decide_eq_true t1; omega
        simp only [h0, if_true] at he ⊢
        have hy := sync_spec b d1 hTo
        generalize d1.sync = sy at he hy
        obtain ⟨d2, ey⟩ := sy
        dsimp only at he hy ⊢
        have hey : ey = 0 := by
          by_cases h : ey = 0
          · exact h
          · rw [if_pos h] at he; exact absurd he h
        subst hey
        simp only [not_true_eq_false, if_false]
        refine hgo _ (fun u1 => ?_) (fun u1 u2 => ?_)
        all_goals
          refine spec_intro [] _ Try.func34 rfl Try.ntmps34 (by rfl) (fun w0 R => ?_)
          repeat' (first | (refine go_Z ?_; intros) | (refine gs_Z ?_ ?_ <;> (intro hgd; try (simp only [Bool.not_true, Bool.not_false] at hgd))) | (refine gc_Z ?_ ?_ <;> intro _) | fail)
          refine cl_Z (hr) ?_
          intro _ _
          repeat' (first | (refine go_Z ?_; intros) | (refine gs_Z ?_ ?_ <;> (intro hgd; try (simp only [Bool.not_true, Bool.not_false] at hgd))) | (refine gc_Z ?_ ?_ <;> intro _) | fail)
          refine cl_Z (hS) ?_
          rintro ⟨v, hv⟩ _
          repeat' (first | (refine go_Z ?_; intros) | (refine gs_Z ?_ ?_ <;> (intro hgd; try (simp only [Bool.not_true, Bool.not_false] at hgd))) | (refine gc_Z ?_ ?_ <;> intro _) | fail)
          refine cl_Z (hT) ?_
          intro _ _
          repeat' (first | (refine go_Z ?_; intros) | (refine gs_Z ?_ ?_ <;> (intro hgd; try (simp only [Bool.not_true, Bool.not_false] at hgd))) | (refine gc_Z ?_ ?_ <;> intro _) | fail)
          refine cl_Z (Loose_spec b d1) ?_
          intro _ _
          repeat' (first | (refine go_Z ?_; intros) | (refine gs_Z ?_ ?_ <;> (intro hgd; try (simp only [Bool.not_true, Bool.not_false] at hgd))) | (refine gc_Z ?_ ?_ <;> intro _) | fail)
          refine cl_Z (hy) ?_
          intro _ _
          repeat' (first | (refine go_Z ?_; intros) | (refine gs_Z ?_ ?_ <;> (intro hgd; try (simp only [Bool.not_true, Bool.not_false] at hgd))) | (refine gc_Z ?_ ?_ <;> intro _) | fail)
          rename_i wb
          rw [hln]
          (refine rt_Z (y := (wb, ⟨v, hv⟩)) (hrs := Try.results34) (hv := ?_) (hφ := ?_))
          · rfl
          · trivial
    · rw [if_pos rfl] at he
      cases he
end Go.Proofs.Ytgmobpngcilgjaa
