/- The order of values tells any two keys apart. -/
import Derived.Test.YtbagfdolcabniaaDoorG2
import Derived.Test.YtbagfdolcabniaaDoorG1
import Derived.Sort.Statements
set_option linter.unusedSimpArgs false
set_option linter.unusedVariables false
set_option maxRecDepth 100000
namespace Go.Proofs.YtbagfdolcabniaaDoor
open Go Go.Fx Go.Proofs Go.Pl

theorem canonR_rng {n : Int} (h0 : 0 ≤ n) (h1 : n ≤ 18446744073709551615) : 0 ≤ canonR n ∧ canonR n ≤ 18446744073709551615 := by
  unfold canonR
  split <;> omega
theorem ofInt_nat {c : Int} (h0 : 0 ≤ c) (h1 : c ≤ 18446744073709551615) : (BitVec.ofInt 64 c).toNat = c.toNat := by
  rw [BitVec.toNat_ofInt]
  have e : ((2 ^ 64 : Nat) : Int) = 18446744073709551616 := by decide
  rw [e]
  omega
theorem keyR_val {n : Int} (h0 : 0 ≤ canonR n) (h1 : canonR n ≤ 18446744073709551615) : keyR n = if canonR n < 9223372036854775808 then canonR n + 9223372036854775808 else 18446744073709551615 - canonR n := by
  unfold keyR
  generalize canonR n = c at h0 h1
  have hs : shiftOf .shr .u64 c 63 = c / 9223372036854775808 := by
    show c.fdiv (2 ^ (min (63 : Int).toNat (IntKind.u64).bits)) = _
    rw [show min (63 : Int).toNat (IntKind.u64).bits = 63 from by decide]
    rw [show (2 : Int) ^ 63 = 9223372036854775808 from by decide]
    rw [Int.fdiv_eq_ediv_of_nonneg _ (by decide)]
  have hc := ofInt_nat h0 h1
  by_cases hlt : c < 9223372036854775808
  · rw [if_pos (by rw [hs]; omega), if_pos hlt]
    show IntKind.u64.wrap ((BitVec.ofInt 64 c ||| BitVec.ofInt 64 9223372036854775808).toNat : Int) = _
    have e : (BitVec.ofInt 64 c ||| BitVec.ofInt 64 9223372036854775808).toNat = c.toNat + 9223372036854775808 := by
      have h2 := Nat.two_pow_add_eq_or_of_lt (b := c.toNat) (i := 63) (by omega) 1
      rw [Nat.mul_one] at h2
      rw [BitVec.toNat_or, hc, show (BitVec.ofInt 64 9223372036854775808).toNat = 2 ^ 63 from by decide, Nat.or_comm, ← h2]
      omega
    rw [e]
    show (((c.toNat + 9223372036854775808 : Nat) : Int)) % 18446744073709551616 = _
    omega
  · rw [if_neg (by rw [hs]; omega), if_neg hlt]
    show IntKind.u64.wrap ((BitVec.ofInt 64 IntKind.u64.max ^^^ BitVec.ofInt 64 c).toNat : Int) = _
    have e : (BitVec.ofInt 64 IntKind.u64.max ^^^ BitVec.ofInt 64 c).toNat = 18446744073709551615 - c.toNat := by
      rw [show BitVec.ofInt 64 IntKind.u64.max = BitVec.allOnes 64 from by decide, BitVec.allOnes_xor, BitVec.toNat_not, hc]
    rw [e]
    show (((18446744073709551615 - c.toNat : Nat) : Int)) % 18446744073709551616 = _
    omega
theorem keyR_inj {a b : Int} (a0 : 0 ≤ a) (a1 : a ≤ 18446744073709551615) (b0 : 0 ≤ b) (b1 : b ≤ 18446744073709551615) (ha : canonR a = a) (hb : canonR b = b) (h : keyR a = keyR b) : a = b := by
  rw [keyR_val (by rw [ha]; exact a0) (by rw [ha]; exact a1), keyR_val (by rw [hb]; exact b0) (by rw [hb]; exact b1), ha, hb] at h
  split at h <;> split at h <;> omega
/-- What a value that may be has. -/
theorem check_real {v : Vl} (h : checkV v = true) : canonR v.real = v.real := by
  unfold checkV at h
  cases hw : wantV v with
  | none => rw [hw] at h; cases h
  | some w =>
    rw [hw] at h
    simp only [Bool.and_eq_true, decide_eq_true_eq] at h
    obtain ⟨rfl, _⟩ := h
    have z : canonR 0 = 0 := by decide +kernel
    unfold wantV at hw
    split at hw
    · simp only [Option.some.injEq] at hw; rw [← hw]; exact z
    split at hw
    · split at hw
      · cases hw
      · simp only [Option.some.injEq] at hw; rw [← hw]; exact z
    split at hw
    · simp only [Option.some.injEq] at hw; rw [← hw]; exact z
    split at hw
    · simp only [Option.some.injEq] at hw
      exact (congrArg Vl.real hw)
    split at hw
    · split at hw
      · simp only [Option.some.injEq] at hw; rw [← hw]; exact z
      · cases hw
    split at hw
    · simp only [Option.some.injEq] at hw; rw [← hw]; exact z
    · cases hw
/-- Two keys that the order does not part are one. -/
theorem key_eq {a b : Vl} (ha : checkV a = true) (hb : checkV b = true) (wa : a.wf) (wb : b.wf) (h : compareV keyR a b = 0) : a = b :=
  compareV_zero h fun e => keyR_inj wa.r0 wa.r1 wb.r0 wb.r1 (check_real ha) (check_real hb) e
theorem less_swo {α : Type} (f : α → Vl) : Go.Sort.SWO (fun x y => lessV (f x) (f y)) := by
  have t := (compareV_tc keyR).map f
  refine ⟨fun x => ?_, fun x y z h k => ?_, fun x y z h k => ?_⟩
  · unfold lessV; rw [t.self x]; decide
  · unfold lessV at h k ⊢
    simp only [decide_eq_true_eq] at h k ⊢
    exact t.lt_le h (by omega)
  · unfold lessV at h k ⊢
    simp only [decide_eq_false_iff_not, Int.not_lt] at h k ⊢
    have h1 := t.anti x y
    have h2 := t.anti y x
    have k1 := t.anti y z
    have k2 := t.anti z y
    have hz := t.tr z y x (by omega) (by omega)
    have a1 := t.anti z x
    have a2 := t.anti x z
    omega
theorem less_parts {a b : Vl} (ha : checkV a = true) (hb : checkV b = true) (wa : a.wf) (wb : b.wf) (hne : a ≠ b) (h : lessV b a = false) : lessV a b = true := by
  unfold lessV at h ⊢
  simp only [decide_eq_false_iff_not, Int.not_lt, decide_eq_true_eq] at h ⊢
  have t := compareV_tc keyR
  have h1 := t.anti a b
  have h2 := t.anti b a
  have hz : compareV keyR a b ≠ 0 := fun e => hne (key_eq ha hb wa wb e)
  omega
theorem less_asym (a b : Vl) (h : lessV a b = true) : ¬ lessV b a = true := by
  unfold lessV at h ⊢
  simp only [decide_eq_true_eq] at h ⊢
  have t := compareV_tc keyR
  have h1 := t.anti a b
  omega
end Go.Proofs.YtbagfdolcabniaaDoor
