/- The walk of word.Sum. -/
import Derived.Test.YtgmobpngcilgjaaWdB
-- @DEFS Z
set_option linter.unusedSimpArgs false
set_option linter.unusedVariables false
set_option maxRecDepth 4000
namespace Go.Proofs.Ytgmobpngcilgjaa
open Go Go.Fx Go.Proofs Go.Pl

theorem sum_spec (s : ByteArray) (hs : s.size ≤ 4611686018427387904) : FSpec Try.prog 141 [.string s] [] Unit (fun _ => True) (fun _ => .int .u32 (sumS s)) (fun _ => []) := by
  refine spec_intro [] _ Try.func141 rfl Try.ntmps141 (by rfl) (fun w0 R => ?_)
  repeat' (first | (refine go_Z ?_; intros) | (refine gs_Z ?_ ?_ <;> (intro hgd; try (simp only [Bool.not_true, Bool.not_false] at hgd))) | (refine gc_Z ?_ ?_ <;> intro _) | fail)
  refine cl_Z (half_spec) ?_
  intro _ _
  repeat' (first | (refine go_Z ?_; intros) | (refine gs_Z ?_ ?_ <;> (intro hgd; try (simp only [Bool.not_true, Bool.not_false] at hgd))) | (refine gc_Z ?_ ?_ <;> intro _) | fail)
  rename_i b
  refine ok_loop' (γ := Nat) (fun k ρ L => k ≤ s.size ∧ Knows ρ [(0, .string s), (3, .pointer (some ⟨b, 0, none⟩)), (4, .int .u32 (sumL s.data.toList k)), (8, .int .i64 s.size), (9, .int .i64 k)] ∧ L = [pts b (.cells (tabV 16).toArray 211)] ++ R) (fun k => s.size - k) 0 ⟨by omega, ⟨rfl, rfl, rfl, rfl, rfl, trivial⟩, rfl⟩ ?_
  rintro k ρ L ⟨hk, hkn, rfl⟩
  refine ok_regs hkn ?_
  cases t3 : decide ((k : Int) < (s.size : Int)) with
  | true =>
    have hkl : k < s.size := by simp at t3; omega
    have hlen : k < s.data.toList.length := by have h' := hkl; simp; exact h'
    have hc : s.data.toList[k]? = some s.data.toList[k] := List.getElem?_eq_getElem hlen
    have hg : sumL s.data.toList (k + 1) = sumT (sumT (sumX (sumL s.data.toList k) s.data.toList[k])) := by
      show (match s.data.toList[k]? with | some x => sumT (sumT (sumX (sumL s.data.toList k) x)) | none => sumL s.data.toList k) = _
      rw [hc]
    generalize s.data.toList[k] = c at hc hg
    obtain ⟨m1, e1, h1⟩ := and15 (bitsOf .xor .u32 (sumL s.data.toList k) (IntKind.u32.wrap (c.toNat : Int)))
    have g1 := tab16_get m1 h1
    obtain ⟨m2, e2, h2⟩ := and15 (bitsOf .xor .u32 (shiftOf .shr .u32 (bitsOf .xor .u32 (sumL s.data.toList k) (IntKind.u32.wrap (c.toNat : Int))) 4) (hiter 4 (m1 : Int)))
    have g2 := tab16_get m2 h2
    repeat' (first | (refine go_Z ?_; intros) | (refine gs_Z ?_ ?_ <;> (intro hgd; try (simp only [Bool.not_true, Bool.not_false] at hgd))) | (refine gc_Z ?_ ?_ <;> intro _) | fail)
    refine cont_back (k + 1) ⟨hkl, ⟨rfl, rfl, by rw [hg]; unfold sumT sumX; rw [e1, e2]; rfl, rfl, rfl, trivial⟩, rfl⟩ (by omega)
  | false =>
    have hkl : k = s.size := by simp at t3; omega
    subst hkl
    repeat' (first | (refine go_Z ?_; intros) | (refine gs_Z ?_ ?_ <;> (intro hgd; try (simp only [Bool.not_true, Bool.not_false] at hgd))) | (refine gc_Z ?_ ?_ <;> intro _) | fail)
    (refine rt_Z (y := ()) (hrs := Try.results141) (hv := ?_) (hφ := ?_))
    · rfl
    · trivial
end Go.Proofs.Ytgmobpngcilgjaa
