import Derived.Test.YtadgdikijdmceaaGreatG2
set_option linter.unusedSimpArgs false
set_option linter.unusedVariables false
set_option maxRecDepth 100000
namespace Go.Proofs.YtadgdikijdmceaaGreat
open Go Go.Fx Go.Proofs Go.Pl

theorem fits4 (v : Nat) (h : v < 4294967296) : fitsB v 4 8 = true := by
  unfold fitsB
  have e : shiftOf .shr .u64 (v : Int) (4 * 8) = 0 := by
    have e1 : min (((4 : Int) * 8).toNat) IntKind.u64.bits = 32 := by decide
    show (v : Int).fdiv (2 ^ (min ((4 : Int) * 8).toNat IntKind.u64.bits)) = 0
    rw [e1, Int.fdiv_eq_ediv_of_nonneg _ (by decide)]
    exact Int.ediv_eq_zero_of_lt (by omega) (by omega)
  rw [e]; rfl
theorem wrap_u64 (v : Nat) (h : v < 18446744073709551616) : IntKind.u64.wrap (v : Int) = (v : Int) := by
  have e4 : (2 : Int) ^ IntKind.u64.bits = 18446744073709551616 := rfl
  unfold IntKind.wrap
  simp only [e4]
  rw [if_neg (by simp [IntKind.signed])]
  omega

theorem fput_spec (v : Nat) (h : v < 4294967296) : FSpec Tryz.prog 96 [.int .u32 v] [] Unit (fun _ => True) (fun _ => .string ⟨(putL v 4).toArray⟩) (fun _ => []) := by
  have hw := wrap_u64 v (by omega)
  refine spec_intro [] _ Tryz.func96 rfl Tryz.ntmps96 (by rfl) (fun w0 R => ?_)
  repeat' (first | (refine go_Z ?_; intros) | (refine gs_Z ?_ ?_ <;> (intro hgd; try (simp only [Bool.not_true, Bool.not_false] at hgd))) | (refine gc_Z ?_ ?_ <;> intro _) | fail)
  refine cl_Z (put_spec v 4 (by omega) (by omega) (by omega) (fits4 v h)) ?_
  intro _ _
  repeat' (first | (refine go_Z ?_; intros) | (refine gs_Z ?_ ?_ <;> (intro hgd; try (simp only [Bool.not_true, Bool.not_false] at hgd))) | (refine gc_Z ?_ ?_ <;> intro _) | fail)
  (refine rt_Z (y := ()) (hrs := Tryz.results96) (hv := ?_) (hφ := ?_))
  · rfl
  · trivial

def put4 (v : Nat) : ByteArray := ⟨(putL v 4).toArray⟩
theorem put4_size (v : Nat) : (put4 v).size = 4 := by show (putL v 4).toArray.size = 4; simp [putL]
theorem bits_nat (op : BinOp) (a b : Int) : 0 ≤ bitsOf op .u32 a b ∧ bitsOf op .u32 a b < 4294967296 := by
  have key : ∀ n : Int, 0 ≤ IntKind.u32.wrap n ∧ IntKind.u32.wrap n < 4294967296 := by
    intro n
    have e4 : (2 : Int) ^ IntKind.u32.bits = 4294967296 := rfl
    unfold IntKind.wrap
    simp only [e4]
    rw [if_neg (by simp [IntKind.signed])]
    omega
  exact key _
def sumN (s : ByteArray) : Nat := (sumS s).toNat
theorem sumN_eq (s : ByteArray) : sumS s = (sumN s : Int) ∧ sumN s < 4294967296 := by
  have h := bits_nat .xor (if IntKind.u32.signed then -1 else IntKind.u32.max) (sumL s.data.toList s.size)
  have h' : 0 ≤ sumS s ∧ sumS s < 4294967296 := h
  unfold sumN
  omega
theorem fput4_spec (v : Nat) (h : v < 4294967296) : FSpec Tryz.prog 96 [.int .u32 v] [] Unit (fun _ => True) (fun _ => .string (put4 v)) (fun _ => []) := fput_spec v h

def frameOf (s : ByteArray) : ByteArray := put4 s.size ++ put4 (sumN (put4 s.size)) ++ put4 (sumN s) ++ s

theorem fPut_spec (s : ByteArray) (h : s.size ≤ 4194304) : FSpec Tryz.prog 78 [.string s] [] Unit (fun _ => True) (fun _ => .tuple #[.string (frameOf s), .int .i64 0]) (fun _ => []) := by
  have t1 : decide ((4194304 : Int) < (s.size : Int)) = false := by simp; omega
  have hw : IntKind.u32.wrap (s.size : Int) = (s.size : Int) := by
    have e4 : (2 : Int) ^ IntKind.u32.bits = 4294967296 := rfl
    unfold IntKind.wrap
    simp only [e4]
    rw [if_neg (by simp [IntKind.signed])]
    omega
  have z0 := put4_size s.size
  have z1 := put4_size (sumN (put4 s.size))
  have z2 := put4_size (sumN s)
  have z3 : (put4 s.size ++ put4 (sumN (put4 s.size))).size = 8 := by rw [ByteArray.size_append, z0, z1]
  have z4 : (put4 s.size ++ put4 (sumN (put4 s.size)) ++ put4 (sumN s)).size = 12 := by rw [ByteArray.size_append, z3, z2]
  refine spec_intro [] _ Tryz.func78 rfl Tryz.ntmps78 (by rfl) (fun w0 R => ?_)
  repeat' (first | (refine go_Z ?_; intros) | (refine gs_Z ?_ ?_ <;> (intro hgd; try (simp only [Bool.not_true, Bool.not_false] at hgd))) | (refine gc_Z ?_ ?_ <;> intro _) | fail)
  refine cl_Z (fput4_spec s.size (by omega)) ?_
  intro _ _
  repeat' (first | (refine go_Z ?_; intros) | (refine gs_Z ?_ ?_ <;> (intro hgd; try (simp only [Bool.not_true, Bool.not_false] at hgd))) | (refine gc_Z ?_ ?_ <;> intro _) | fail)
  refine cl_Z (sum_spec (put4 s.size) (by omega)) ?_
  intro _ _
  rw [(sumN_eq (put4 s.size)).1]
  repeat' (first | (refine go_Z ?_; intros) | (refine gs_Z ?_ ?_ <;> (intro hgd; try (simp only [Bool.not_true, Bool.not_false] at hgd))) | (refine gc_Z ?_ ?_ <;> intro _) | fail)
  refine cl_Z (fput4_spec (sumN (put4 s.size)) (sumN_eq _).2) ?_
  intro _ _
  repeat' (first | (refine go_Z ?_; intros) | (refine gs_Z ?_ ?_ <;> (intro hgd; try (simp only [Bool.not_true, Bool.not_false] at hgd))) | (refine gc_Z ?_ ?_ <;> intro _) | fail)
  refine cl_Z (sum_spec s (by omega)) ?_
  intro _ _
  rw [(sumN_eq s).1]
  repeat' (first | (refine go_Z ?_; intros) | (refine gs_Z ?_ ?_ <;> (intro hgd; try (simp only [Bool.not_true, Bool.not_false] at hgd))) | (refine gc_Z ?_ ?_ <;> intro _) | fail)
  refine cl_Z (fput4_spec (sumN s) (sumN_eq _).2) ?_
  intro _ _
  repeat' (first | (refine go_Z ?_; intros) | (refine gs_Z ?_ ?_ <;> (intro hgd; try (simp only [Bool.not_true, Bool.not_false] at hgd))) | (refine gc_Z ?_ ?_ <;> intro _) | fail)
  (refine rt_Z (y := ()) (hrs := Tryz.results78) (hv := ?_) (hφ := ?_))
  · rfl
  · trivial
end Go.Proofs.YtadgdikijdmceaaGreat
