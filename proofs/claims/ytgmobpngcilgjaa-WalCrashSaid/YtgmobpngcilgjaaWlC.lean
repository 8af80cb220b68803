/- The walk of wal.steps. -/
import Derived.Test.YtgmobpngcilgjaaWlB
-- @DEFS Z
set_option linter.unusedSimpArgs false
set_option linter.unusedVariables false
set_option maxRecDepth 4000
namespace Go.Proofs.Ytgmobpngcilgjaa
open Go Go.Fx Go.Proofs Go.Pl

theorem down_0 (w : Wv) : w.down 0 = w := rfl
theorem down_4 (w : Wv) : w.down 4 = w := rfl
theorem down_ne (w : Wv) {e : Int} (h : e ≠ 0) (h4 : e ≠ 4) : w.down e = { w with fault := e } := by unfold Wv.down; rw [if_pos ⟨h, h4⟩]

theorem steps_1 (wb b : Nat) (nm : BA) (w : Wv) (u f g : Value) (D0 D1 : HProp) (e1 : Int) (hne : e1 ≠ 0)
    (hf : VSpec Try.prog f [] [walP wb b nm w, D0] Unit (fun _ => True) (fun _ => .int .i64 e1) (fun _ => [walP wb b nm w, D1])) :
    FSpec Try.prog 88 [.pointer (some ⟨wb, 0, none⟩), u] [walP wb b nm w, row 44 1 u [[f], [g]], D0] Unit (fun _ => True) (fun _ => .int .i64 e1) (fun _ => [walP wb b nm (w.down e1), D1]) := by
  have hx0 : ([[f], [g]] : List (List Value))[0]? = some [f] := rfl
  have hlt0 : 0 < ([[f], [g]] : List (List Value)).length := by simp
  have u1 : (!decide (e1 = 0)) = true := by simpa using hne
  have t0 : decide (((0 : Nat) : Int) < (([[f], [g]] : List (List Value)).length : Int)) = true := rfl
  refine spec_intro [] _ Try.func88 rfl Try.ntmps88 (by rfl) (fun w0 R => ?_)
  refine ok_learn (row_cases (xs := [[f], [g]]) takeD) ?_
  rintro (⟨rfl, hn⟩ | ⟨gb, c, rfl, hgc⟩)
  · cases hn
  repeat' (first | (refine go_Z ?_; intros) | (refine gs_Z ?_ ?_ <;> (intro hgd; try (simp only [Bool.not_true, Bool.not_false] at hgd))) | (refine gc_Z ?_ ?_ <;> intro _) | fail)
  refine ok_loop' (γ := Unit) (fun _ ρ L => Knows ρ [(0, .pointer (some ⟨wb, 0, none⟩)), (8, .slice (some ⟨gb, 0, none⟩) ([[f], [g]] : List (List Value)).length c), (9, .int .i64 ([[f], [g]] : List (List Value)).length), (10, .int .i64 ((0 : Nat) : Int))] ∧ L = [walP wb b nm w, row 44 1 (.slice (some ⟨gb, 0, none⟩) ([[f], [g]] : List (List Value)).length c) [[f], [g]], D0] ++ R) (fun _ => 0) () ⟨⟨rfl, rfl, rfl, rfl, trivial⟩, rfl⟩ ?_
  rintro _ ρ L ⟨hk, rfl⟩
  refine ok_regs hk ?_
  cases u2 : (!decide (e1 = 4)) with
  | true =>
    rw [down_ne w hne (by simpa using u2)]
    repeat' (first | (refine go_Z ?_; intros) | (refine gs_Z ?_ ?_ <;> (intro hgd; try (simp only [Bool.not_true, Bool.not_false] at hgd))) | (refine gc_Z ?_ ?_ <;> intro _) | fail)
    refine clV_Z (hf) ?_
    intro _ _
    repeat' (first | (refine go_Z ?_; intros) | (refine gs_Z ?_ ?_ <;> (intro hgd; try (simp only [Bool.not_true, Bool.not_false] at hgd))) | (refine gc_Z ?_ ?_ <;> intro _) | fail)
    unfold walP
    repeat' (first | (refine go_Z ?_; intros) | (refine gs_Z ?_ ?_ <;> (intro hgd; try (simp only [Bool.not_true, Bool.not_false] at hgd))) | (refine gc_Z ?_ ?_ <;> intro _) | fail)
    (refine rt_Z (y := ()) (hrs := Try.results88) (hv := ?_) (hφ := ?_))
    · rfl
    · trivial
  | false =>
    have h4 : e1 = 4 := by simpa using u2
    subst h4
    rw [down_4]
    repeat' (first | (refine go_Z ?_; intros) | (refine gs_Z ?_ ?_ <;> (intro hgd; try (simp only [Bool.not_true, Bool.not_false] at hgd))) | (refine gc_Z ?_ ?_ <;> intro _) | fail)
    refine clV_Z (hf) ?_
    intro _ _
    repeat' (first | (refine go_Z ?_; intros) | (refine gs_Z ?_ ?_ <;> (intro hgd; try (simp only [Bool.not_true, Bool.not_false] at hgd))) | (refine gc_Z ?_ ?_ <;> intro _) | fail)
    (refine rt_Z (y := ()) (hrs := Try.results88) (hv := ?_) (hφ := ?_))
    · rfl
    · trivial

theorem steps_2 (wb b : Nat) (nm : BA) (w : Wv) (u f g : Value) (D0 D1 D2 : HProp) (e2 : Int)
    (hf : VSpec Try.prog f [] [walP wb b nm w, D0] Unit (fun _ => True) (fun _ => .int .i64 0) (fun _ => [walP wb b nm w, D1]))
    (hg : VSpec Try.prog g [] [walP wb b nm w, D1] Unit (fun _ => True) (fun _ => .int .i64 e2) (fun _ => [walP wb b nm w, D2])) :
    FSpec Try.prog 88 [.pointer (some ⟨wb, 0, none⟩), u] [walP wb b nm w, row 44 1 u [[f], [g]], D0] Unit (fun _ => True) (fun _ => .int .i64 e2) (fun _ => [walP wb b nm (w.down e2), D2]) := by
  have hx0 : ([[f], [g]] : List (List Value))[0]? = some [f] := rfl
  have hx1 : ([[f], [g]] : List (List Value))[1]? = some [g] := rfl
  have hlt0 : 0 < ([[f], [g]] : List (List Value)).length := by simp
  have hlt1 : 1 < ([[f], [g]] : List (List Value)).length := by simp
  refine spec_intro [] _ Try.func88 rfl Try.ntmps88 (by rfl) (fun w0 R => ?_)
  refine ok_learn (row_cases (xs := [[f], [g]]) takeD) ?_
  rintro (⟨rfl, hn⟩ | ⟨gb, c, rfl, hgc⟩)
  · cases hn
  repeat' (first | (refine go_Z ?_; intros) | (refine gs_Z ?_ ?_ <;> (intro hgd; try (simp only [Bool.not_true, Bool.not_false] at hgd))) | (refine gc_Z ?_ ?_ <;> intro _) | fail)
  refine ok_loop' (γ := Nat × HProp) (fun q ρ L => (q = (0, D0) ∨ q = (1, D1) ∨ q = (2, D2) ∧ e2 = 0) ∧ Knows ρ [(0, .pointer (some ⟨wb, 0, none⟩)), (8, .slice (some ⟨gb, 0, none⟩) ([[f], [g]] : List (List Value)).length c), (9, .int .i64 ([[f], [g]] : List (List Value)).length), (10, .int .i64 (q.1 : Int))] ∧ L = [walP wb b nm w, row 44 1 (.slice (some ⟨gb, 0, none⟩) ([[f], [g]] : List (List Value)).length c) [[f], [g]], q.2] ++ R) (fun q => 2 - q.1) (0, D0) ⟨.inl rfl, ⟨rfl, rfl, rfl, rfl, trivial⟩, rfl⟩ ?_
  rintro ⟨i, D⟩ ρ L ⟨hi, hk, rfl⟩
  dsimp only at hk ⊢
  refine ok_regs hk ?_
  rcases hi with e | e | ⟨e, rfl⟩
  · cases e
    have t0 : decide (((0 : Nat) : Int) < (([[f], [g]] : List (List Value)).length : Int)) = true := rfl
    repeat' (first | (refine go_Z ?_; intros) | (refine gs_Z ?_ ?_ <;> (intro hgd; try (simp only [Bool.not_true, Bool.not_false] at hgd))) | (refine gc_Z ?_ ?_ <;> intro _) | fail)
    refine clV_Z (hf) ?_
    intro _ _
    repeat' (first | (refine go_Z ?_; intros) | (refine gs_Z ?_ ?_ <;> (intro hgd; try (simp only [Bool.not_true, Bool.not_false] at hgd))) | (refine gc_Z ?_ ?_ <;> intro _) | fail)
    refine cont_map (L' := [walP wb b nm w, row 44 1 (.slice (some ⟨gb, 0, none⟩) ([[f], [g]] : List (List Value)).length c) [[f], [g]], D1] ++ R) entD ?_
    refine cont_back (1, D1) ⟨.inr (.inl rfl), ⟨rfl, rfl, rfl, rfl, trivial⟩, rfl⟩ (by simp)
  · cases e
    have t0 : decide (((1 : Nat) : Int) < (([[f], [g]] : List (List Value)).length : Int)) = true := rfl
    cases u1 : (!decide (e2 = 0)) with
    | false =>
      have h0 : e2 = 0 := by simpa using u1
      subst h0
      rw [down_0]
      repeat' (first | (refine go_Z ?_; intros) | (refine gs_Z ?_ ?_ <;> (intro hgd; try (simp only [Bool.not_true, Bool.not_false] at hgd))) | (refine gc_Z ?_ ?_ <;> intro _) | fail)
      refine clV_Z (hg) ?_
      intro _ _
      repeat' (first | (refine go_Z ?_; intros) | (refine gs_Z ?_ ?_ <;> (intro hgd; try (simp only [Bool.not_true, Bool.not_false] at hgd))) | (refine gc_Z ?_ ?_ <;> intro _) | fail)
      refine cont_map (L' := [walP wb b nm w, row 44 1 (.slice (some ⟨gb, 0, none⟩) ([[f], [g]] : List (List Value)).length c) [[f], [g]], D2] ++ R) entD ?_
      refine cont_back (2, D2) ⟨.inr (.inr ⟨rfl, rfl⟩), ⟨rfl, rfl, rfl, rfl, trivial⟩, rfl⟩ (by simp)
    | true =>
      have h0 : e2 ≠ 0 := by simpa using u1
      cases u2 : (!decide (e2 = 4)) with
      | true =>
        rw [down_ne w h0 (by simpa using u2)]
        repeat' (first | (refine go_Z ?_; intros) | (refine gs_Z ?_ ?_ <;> (intro hgd; try (simp only [Bool.not_true, Bool.not_false] at hgd))) | (refine gc_Z ?_ ?_ <;> intro _) | fail)
        refine clV_Z (hg) ?_
        intro _ _
        repeat' (first | (refine go_Z ?_; intros) | (refine gs_Z ?_ ?_ <;> (intro hgd; try (simp only [Bool.not_true, Bool.not_false] at hgd))) | (refine gc_Z ?_ ?_ <;> intro _) | fail)
        unfold walP
        repeat' (first | (refine go_Z ?_; intros) | (refine gs_Z ?_ ?_ <;> (intro hgd; try (simp only [Bool.not_true, Bool.not_false] at hgd))) | (refine gc_Z ?_ ?_ <;> intro _) | fail)
        (refine rt_Z (y := ()) (hrs := Try.results88) (hv := ?_) (hφ := ?_))
        · rfl
        · trivial
      | false =>
        have h4 : e2 = 4 := by simpa using u2
        subst h4
        rw [down_4]
        repeat' (first | (refine go_Z ?_; intros) | (refine gs_Z ?_ ?_ <;> (intro hgd; try (simp only [Bool.not_true, Bool.not_false] at hgd))) | (refine gc_Z ?_ ?_ <;> intro _) | fail)
        refine clV_Z (hg) ?_
        intro _ _
        repeat' (first | (refine go_Z ?_; intros) | (refine gs_Z ?_ ?_ <;> (intro hgd; try (simp only [Bool.not_true, Bool.not_false] at hgd))) | (refine gc_Z ?_ ?_ <;> intro _) | fail)
        (refine rt_Z (y := ()) (hrs := Try.results88) (hv := ?_) (hφ := ?_))
        · rfl
        · trivial
  · cases e
    have t0 : decide (((2 : Nat) : Int) < (([[f], [g]] : List (List Value)).length : Int)) = false := rfl
    rw [down_0]
    repeat' (first | (refine go_Z ?_; intros) | (refine gs_Z ?_ ?_ <;> (intro hgd; try (simp only [Bool.not_true, Bool.not_false] at hgd))) | (refine gc_Z ?_ ?_ <;> intro _) | fail)
    (refine rt_Z (y := ()) (hrs := Try.results88) (hv := ?_) (hφ := ?_))
    · rfl
    · trivial
end Go.Proofs.Ytgmobpngcilgjaa
