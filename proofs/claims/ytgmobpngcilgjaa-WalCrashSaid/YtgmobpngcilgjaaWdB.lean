/- The walks of package word: half, Sum. -/
import Derived.Test.YtgmobpngcilgjaaWdA
-- @DEFS Z
set_option linter.unusedSimpArgs false
set_option linter.unusedVariables false
set_option maxRecDepth 4000
namespace Go.Proofs.Ytgmobpngcilgjaa
open Go Go.Fx Go.Proofs Go.Pl

theorem half1_spec (c : Int) : FSpec Try.prog 165 [.int .u32 c] [] Unit (fun _ => True) (fun _ => .int .u32 (hiter 4 c)) (fun _ => []) := by
  refine spec_intro [] _ Try.func165 rfl Try.ntmps165 (by rfl) (fun w0 R => ?_)
  repeat' (first | (refine go_Z ?_; intros) | (refine gs_Z ?_ ?_ <;> (intro hgd; try (simp only [Bool.not_true, Bool.not_false] at hgd))) | (refine gc_Z ?_ ?_ <;> intro _) | fail)
  refine ok_loop' (γ := Nat) (fun k ρ L => k ≤ 4 ∧ Knows ρ [(0, .int .u32 (hiter k c)), (3, .int .i64 k)] ∧ L = [] ++ R) (fun k => 4 - k) 0 ⟨by omega, ⟨rfl, rfl, trivial⟩, rfl⟩ ?_
  rintro k ρ L ⟨hk, hkn, rfl⟩
  refine ok_regs hkn ?_
  cases t3 : decide ((k : Int) < 4) with
  | true =>
    have hkl : k < 4 := by simp at t3; omega
    repeat' (first | (refine go_Z ?_; intros) | (refine gs_Z ?_ ?_ <;> (intro hgd; try (simp only [Bool.not_true, Bool.not_false] at hgd))) | (refine gc_Z ?_ ?_ <;> intro _) | fail)
    refine cont_back (k + 1) ⟨hkl, ⟨rfl, rfl, trivial⟩, rfl⟩ (by omega)
  | false =>
    have hkl : k = 4 := by simp at t3; omega
    subst hkl
    repeat' (first | (refine go_Z ?_; intros) | (refine gs_Z ?_ ?_ <;> (intro hgd; try (simp only [Bool.not_true, Bool.not_false] at hgd))) | (refine gc_Z ?_ ?_ <;> intro _) | fail)
    (refine rt_Z (y := ()) (hrs := Try.results165) (hv := ?_) (hφ := ?_))
    · rfl
    · trivial

instance arrT : ArI Try.prog 211 16 197 1 := ⟨Try.underlying211, by kernel_rfl⟩

theorem half_spec : FSpec Try.prog 157 [] [] Unit (fun _ => True) (fun _ => .agg (tabV 16).toArray) (fun _ => []) := by
  refine spec_intro [] _ Try.func157 rfl Try.ntmps157 (by rfl) (fun w0 R => ?_)
  repeat' (first | (refine go_Z ?_; intros) | (refine gs_Z ?_ ?_ <;> (intro hgd; try (simp only [Bool.not_true, Bool.not_false] at hgd))) | (refine gc_Z ?_ ?_ <;> intro _) | fail)
  rename_i b0 b2
  refine ok_map (L' := [pts b2 (.cells (tabV 0).toArray 211), pts b0 _] ++ R) entD ?_
  refine ok_loop' (γ := Nat) (fun k ρ L => k ≤ 16 ∧ Knows ρ [(0, .pointer (some ⟨b0, 0, none⟩)), (1, .func (.func 165) #[] #[]), (2, .pointer (some ⟨b2, 0, none⟩)), (6, .agg (tabV 0).toArray), (7, .int .i64 k)] ∧ L = [pts b2 (.cells (tabV k).toArray 211), pts b0 (.cells (List.replicate 16 (.int .u32 0)).toArray 211)] ++ R) (fun k => 16 - k) 0 ⟨by omega, ⟨rfl, rfl, rfl, rfl, rfl, trivial⟩, rfl⟩ ?_
  rintro k ρ L ⟨hk, hkn, rfl⟩
  refine ok_regs hkn ?_
  cases t3 : decide ((k : Int) < 16) with
  | true =>
    have hkl : k < 16 := by simp at t3; omega
    have hg := tab0_get k hkl
    have hv := vspec_fn (half1_spec (k : Int))
    have hb : Nat.ble (0 + k + 1) (tabV k).length = true := by rw [tabV_len]; simp; omega
    repeat' (first | (refine go_Z ?_; intros) | (refine gs_Z ?_ ?_ <;> (intro hgd; try (simp only [Bool.not_true, Bool.not_false] at hgd))) | (refine gc_Z ?_ ?_ <;> intro _) | fail)
    refine clV_Z (hv) ?_
    intro _ _
    repeat' (first | (refine go_Z ?_; intros) | (refine gs_Z ?_ ?_ <;> (intro hgd; try (simp only [Bool.not_true, Bool.not_false] at hgd))) | (refine gc_Z ?_ ?_ <;> intro _) | fail)
    have hset := tabV_set k hkl
    rw [List.append_assoc] at hset
    first | rw [hset] | (simp only [List.cons_append, List.nil_append] at hset; rw [hset])
    refine cont_map (L' := [pts b2 (.cells (tabV (k + 1)).toArray 211), pts b0 (.cells (List.replicate 16 (.int .u32 0)).toArray 211)] ++ R) entD ?_
    refine cont_back (k + 1) ⟨hkl, ⟨rfl, rfl, rfl, rfl, rfl, trivial⟩, rfl⟩ (by omega)
  | false =>
    have hkl : k = 16 := by simp at t3; omega
    subst hkl
    repeat' (first | (refine go_Z ?_; intros) | (refine gs_Z ?_ ?_ <;> (intro hgd; try (simp only [Bool.not_true, Bool.not_false] at hgd))) | (refine gc_Z ?_ ?_ <;> intro _) | fail)
    (refine rt_Z (y := ()) (hrs := Try.results157) (hv := ?_) (hφ := ?_))
    · rfl
    · trivial
end Go.Proofs.Ytgmobpngcilgjaa
