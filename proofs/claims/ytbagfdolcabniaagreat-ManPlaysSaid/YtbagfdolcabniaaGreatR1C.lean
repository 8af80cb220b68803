/- The walk of fascicleref01.Get: the number of bytes. -/
import Derived.Test.YtbagfdolcabniaaGreatG10
import Derived.Test.YtbagfdolcabniaaGreatRnS
-- @DEFS Z
set_option linter.unusedSimpArgs false
set_option linter.unusedVariables false
set_option maxRecDepth 4000
namespace Go.Proofs.YtbagfdolcabniaaGreat
open Go Go.Fx Go.Proofs Go.Pl

theorem nat4_lt64 (l : List UInt8) (h : l.length ≤ 8) : nat4 l < 18446744073709551616 :=
  Nat.lt_of_lt_of_le (nat4_lt l) (Nat.le_trans (Nat.pow_le_pow_right (by decide : 0 < 256) h) (by decide))
theorem getL_nat4 (s : BA) (h : s.size ≤ 8) : getL s.data.toList s.size = (nat4 (bl s) : Int) := by
  have h1 := nat4_lt (bl s)
  have h2 := putL_nat4 (bl s)
  have h3 := nat4_lt64 (bl s) (by rw [bl_len]; exact h)
  rw [bl_len] at h1 h2
  have h4 := getL_putL (nat4 (bl s)) s.size h3 h s.size (Nat.le_refl _)
  rw [h2] at h4
  rw [show s.data.toList = bl s from rfl, h4, Nat.mod_eq_of_lt]
  rw [Nat.pow_mul]; exact h1

theorem ref1Get_spec (s : BA) (h1 : 1 ≤ s.size) (h8 : s.size ≤ 8) : FSpec Tryz.prog 76 [.string s] [] Unit (fun _ => True) (fun _ => .tuple #[.int .u64 (nat4 (bl s) : Int), .int .i64 0]) (fun _ => []) := by
  have t1 : decide ((s.size : Int) < 1) = false := by simp; omega
  have t2 : decide ((8 : Int) < (s.size : Int)) = false := by simp; omega
  have hbl := bl_len s
  refine spec_intro [] _ Tryz.func76 rfl Tryz.ntmps76 (by rfl) (fun w0 R => ?_)
  repeat' (first | (refine go_Z ?_; intros) | (refine gs_Z ?_ ?_ <;> (intro hgd; try (simp only [Bool.not_true, Bool.not_false] at hgd))) | (refine gc_Z ?_ ?_ <;> intro _) | fail)
  refine ok_loop' (γ := Int) (fun x ρ L => -1 ≤ x ∧ x < (s.size : Int) ∧ Knows ρ [(0, .string s), (4, .int .u64 (nat4 ((bl s).drop (x + 1).toNat) : Int)), (5, .int .i64 x)] ∧ L = R) (fun x => (x + 1).toNat) ((s.size : Int) - 1) ⟨by omega, by omega, ⟨rfl, by rw [List.drop_of_length_le (by omega)]; rfl, rfl, trivial⟩, rfl⟩ ?_
  rintro x ρ L0 ⟨hx0, hx1, hk, rfl⟩
  refine ok_regs hk ?_
  cases t3 : decide ((0 : Int) ≤ x) with
  | false =>
    have hx : x = -1 := by simp at t3; omega
    subst hx
    repeat' (first | (refine go_Z ?_; intros) | (refine gs_Z ?_ ?_ <;> (intro hgd; try (simp only [Bool.not_true, Bool.not_false] at hgd))) | (refine gc_Z ?_ ?_ <;> intro _) | fail)
    (refine rt_Z (y := ()) (hrs := Tryz.results76) (hv := ?_) (hφ := ?_))
    · rfl
    · trivial
  | true =>
    obtain ⟨i, rfl⟩ : ∃ i : Nat, x = i := ⟨x.toNat, by simp at t3; omega⟩
    have hi : i < (bl s).length := by omega
    have hd : (bl s).drop i = (bl s)[i] :: (bl s).drop (i + 1) := List.drop_eq_getElem_cons hi
    have hx : s.data.toList[i]? = some (bl s)[i] := List.getElem?_eq_getElem hi
    generalize (bl s)[i] = c at hx hd
    rw [show ((i : Int) + 1).toNat = i + 1 by omega]
    have hn : nat4 ((bl s).drop i) = c.toNat + 256 * nat4 ((bl s).drop (i + 1)) := by rw [hd]; rfl
    have hlt := nat4_lt64 ((bl s).drop i) (by rw [List.length_drop]; omega)
    have hc := c.toNat_lt
    have w1 : IntKind.u64.wrap (c.toNat : Int) = (c.toNat : Int) := wrap_u64n _ (by omega)
    generalize nat4 ((bl s).drop (i + 1)) = v at hn
    have w2 : IntKind.u64.wrap (arith .add (IntKind.u64.wrap (arith .mul 256 (v : Int))) (c.toNat : Int)) = (nat4 ((bl s).drop i) : Int) := by
      have e1 : arith .mul 256 (v : Int) = ((256 * v : Nat) : Int) := by simp [arith]
      rw [e1, wrap_u64n _ (by omega)]
      have e2 : arith .add ((256 * v : Nat) : Int) (c.toNat : Int) = ((nat4 ((bl s).drop i) : Nat) : Int) := by rw [hn]; simp [arith]; omega
      rw [e2, wrap_u64n _ hlt]
    repeat' (first | (refine go_Z ?_; intros) | (refine gs_Z ?_ ?_ <;> (intro hgd; try (simp only [Bool.not_true, Bool.not_false] at hgd))) | (refine gc_Z ?_ ?_ <;> intro _) | fail)
    refine cont_back ((i : Int) - 1) ⟨by omega, by omega, ⟨rfl, by rw [show ((i : Int) - 1 + 1).toNat = i by omega, ← w2]; rfl, rfl, trivial⟩, rfl⟩ (by omega)
end Go.Proofs.YtbagfdolcabniaaGreat
