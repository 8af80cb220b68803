import Derived.Test.YtphaegcoldpclaaDoorY
import Derived.Test.YtphaegcoldpclaaDoorWdP
set_option linter.unusedSimpArgs false
set_option linter.unusedVariables false
set_option maxRecDepth 100000
namespace Go.Proofs.YtphaegcoldpclaaDoor
open Go Go.Fx Go.Proofs Go.Pl

theorem wfits_spec (v n bits : Int) (h : 0 ≤ n * bits) (h1 : n * bits ≤ 1000000) : FSpec Tryd.prog 115 [.int .u64 v, .int .i64 n, .int .i64 bits] [] Unit (fun _ => True) (fun _ => .bool (fitsB v n bits)) (fun _ => []) := by
  unfold fitsB
  cases t1 : decide (64 ≤ n * bits) with
  | true =>
    refine spec_intro [] _ Tryd.func115 rfl Tryd.ntmps115 (by rfl) (fun w0 R => ?_)
    repeat' (first | (refine go_Y ?_; intros) | (refine gs_Y ?_ ?_ <;> (intro hgd; try (simp only [Bool.not_true, Bool.not_false] at hgd))) | (refine gc_Y ?_ ?_ <;> intro _) | fail)
    (refine rt_Y (y := ()) (hrs := Tryd.results115) (hv := ?_) (hφ := ?_))
    · rfl
    · trivial
  | false =>
    refine spec_intro [] _ Tryd.func115 rfl Tryd.ntmps115 (by rfl) (fun w0 R => ?_)
    repeat' (first | (refine go_Y ?_; intros) | (refine gs_Y ?_ ?_ <;> (intro hgd; try (simp only [Bool.not_true, Bool.not_false] at hgd))) | (refine gc_Y ?_ ?_ <;> intro _) | fail)
    (refine rt_Y (y := ()) (hrs := Tryd.results115) (hv := ?_) (hφ := ?_))
    · rfl
    · trivial

theorem wput_spec (v : Nat) (n : Nat) (hv : v < 18446744073709551616) (h1 : 1 ≤ n) (h8 : n ≤ 8) (hf : fitsB v n 8 = true) : FSpec Tryd.prog 92 [.int .u64 v, .int .i64 n] [] Unit (fun _ => True) (fun _ => .tuple #[.string ⟨(putL v n).toArray⟩, .int .i64 0]) (fun _ => []) := by
  have t1 : decide ((n : Int) < 1) = false := by simp; omega
  have t2 : decide ((8 : Int) < (n : Int)) = false := by simp; omega
  refine spec_intro [122] _ Tryd.func92 rfl Tryd.ntmps92 (by rfl) (fun w0 R => ?_)
  repeat' (first | (refine go_Y ?_; intros) | (refine gs_Y ?_ ?_ <;> (intro hgd; try (simp only [Bool.not_true, Bool.not_false] at hgd))) | (refine gc_Y ?_ ?_ <;> intro _) | fail)
  refine cl_Y (wfits_spec v n 8 (by omega) (by omega)) ?_
  intro _ _
  rw [hf]
  repeat' (first | (refine go_Y ?_; intros) | (refine gs_Y ?_ ?_ <;> (intro hgd; try (simp only [Bool.not_true, Bool.not_false] at hgd))) | (refine gc_Y ?_ ?_ <;> intro _) | fail)
  rename_i b
  rw [← putR_0 v n]
  refine ok_loop' (γ := Nat) (fun k ρ L => k ≤ n ∧ Knows ρ [(0, .int .u64 v), (6, .slice (some ⟨b, 0, none⟩) n n), (23, .int .i64 n), (24, .int .i64 k)] ∧ L = [row 5 1 (.slice (some ⟨b, 0, none⟩) n n) (putR v n k)] ++ R) (fun k => n - k) 0 ⟨by omega, ⟨rfl, rfl, rfl, rfl, trivial⟩, rfl⟩ ?_
  rintro k ρ L ⟨hk, hkn, rfl⟩
  refine ok_regs hkn ?_
  cases t3 : decide ((k : Int) < (n : Int)) with
  | true =>
    have hkl : k < n := by simp at t3; omega
    have hb := byte_shift v k (by omega)
    repeat' (first | (refine go_Y ?_; intros) | (refine gs_Y ?_ ?_ <;> (intro hgd; try (simp only [Bool.not_true, Bool.not_false] at hgd))) | (refine gc_Y ?_ ?_ <;> intro _) | fail)
    rw [putR_set v n k hkl]
    refine cont_back (k + 1) ⟨hkl, ⟨rfl, rfl, rfl, rfl, trivial⟩, rfl⟩ (by omega)
  | false =>
    have hkl : k = n := by simp at t3; omega
    subst hkl
    rw [putR_n]
    repeat' (first | (refine go_Y ?_; intros) | (refine gs_Y ?_ ?_ <;> (intro hgd; try (simp only [Bool.not_true, Bool.not_false] at hgd))) | (refine gc_Y ?_ ?_ <;> intro _) | fail)
    (refine rt_Y (y := ()) (hrs := Tryd.results92) (hv := ?_) (hφ := ?_))
    · rfl
    · trivial

theorem wget_spec (s : ByteArray) (h1 : 1 ≤ s.size) (h8 : s.size ≤ 8) : FSpec Tryd.prog 76 [.string s] [] Unit (fun _ => True) (fun _ => .tuple #[.int .u64 (getL s.data.toList s.size), .int .i64 0]) (fun _ => []) := by
  have t1 : decide ((s.size : Int) < 1) = false := by simp; omega
  have t2 : decide ((8 : Int) < (s.size : Int)) = false := by simp; omega
  refine spec_intro [] _ Tryd.func76 rfl Tryd.ntmps76 (by rfl) (fun w0 R => ?_)
  repeat' (first | (refine go_Y ?_; intros) | (refine gs_Y ?_ ?_ <;> (intro hgd; try (simp only [Bool.not_true, Bool.not_false] at hgd))) | (refine gc_Y ?_ ?_ <;> intro _) | fail)
  refine ok_loop' (γ := Nat) (fun k ρ L => k ≤ s.size ∧ Knows ρ [(0, .string s), (2, .int .u64 (getL s.data.toList k)), (14, .int .i64 s.size), (15, .int .i64 k)] ∧ L = [] ++ R) (fun k => s.size - k) 0 ⟨by omega, ⟨rfl, rfl, rfl, rfl, trivial⟩, rfl⟩ ?_
  rintro k ρ L ⟨hk, hkn, rfl⟩
  refine ok_regs hkn ?_
  cases t3 : decide ((k : Int) < (s.size : Int)) with
  | true =>
    have hkl : k < s.size := by simp at t3; omega
    have hlen : k < s.data.toList.length := by have h' := hkl; simp; exact h'
    have hc : s.data.toList[k]? = some s.data.toList[k] := List.getElem?_eq_getElem hlen
    have hg : getL s.data.toList (k + 1) = getStep (getL s.data.toList k) s.data.toList[k] k := by
      show (match s.data.toList[k]? with | some c => getStep (getL s.data.toList k) c k | none => getL s.data.toList k) = _
      rw [hc]
    generalize s.data.toList[k] = c at hc hg
    repeat' (first | (refine go_Y ?_; intros) | (refine gs_Y ?_ ?_ <;> (intro hgd; try (simp only [Bool.not_true, Bool.not_false] at hgd))) | (refine gc_Y ?_ ?_ <;> intro _) | fail)
    refine cont_back (k + 1) ⟨hkl, ⟨rfl, by rw [hg]; rfl, rfl, rfl, trivial⟩, rfl⟩ (by omega)
  | false =>
    have hkl : k = s.size := by simp at t3; omega
    subst hkl
    repeat' (first | (refine go_Y ?_; intros) | (refine gs_Y ?_ ?_ <;> (intro hgd; try (simp only [Bool.not_true, Bool.not_false] at hgd))) | (refine gc_Y ?_ ?_ <;> intro _) | fail)
    (refine rt_Y (y := ()) (hrs := Tryd.results76) (hv := ?_) (hφ := ?_))
    · rfl
    · trivial
end Go.Proofs.YtphaegcoldpclaaDoor
