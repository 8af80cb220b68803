import Derived.Test.YtadgdikijdmceaaGreatG17
import Derived.Test.YtadgdikijdmceaaGreatFwY
set_option linter.unusedVariables false
namespace Go.Proofs.YtadgdikijdmceaaGreat
open Go Go.Fx Go.Pl

theorem flip_byte (c0 : UInt8) (bit : Nat) (h : bit ≤ 7) : ∃ c : UInt8, bitsOf .xor .u8 (c0.toNat : Int) (shiftOf .shl .u8 1 (bit : Int)) = (c.toNat : Int) ∧ c0 ≠ c := by
  have h0 : ∀ k : Fin 8, BitVec.ofInt 8 (shiftOf .shl .u8 1 ((k.1 : Nat) : Int)) ≠ 0#8 := by decide
  have h1 := h0 ⟨bit, by omega⟩
  dsimp only at h1
  have e : bitsOf .xor .u8 (c0.toNat : Int) (shiftOf .shl .u8 1 (bit : Int)) = ((BitVec.ofInt 8 (c0.toNat : Int) ^^^ BitVec.ofInt 8 (shiftOf .shl .u8 1 (bit : Int))).toNat : Int) := by
    show IntKind.u8.wrap _ = _
    have e4 : (2 : Int) ^ IntKind.u8.bits = 256 := rfl
    unfold IntKind.wrap
    simp only [e4]
    rw [if_neg (by simp [IntKind.signed])]
    have := (BitVec.ofInt 8 (c0.toNat : Int) ^^^ BitVec.ofInt 8 (shiftOf .shl .u8 1 (bit : Int))).isLt
    show (((BitVec.ofInt 8 (c0.toNat : Int) ^^^ BitVec.ofInt 8 (shiftOf .shl .u8 1 (bit : Int))).toNat : Nat) : Int) % 256 = _
    omega
  generalize BitVec.ofInt 8 (shiftOf .shl .u8 1 (bit : Int)) = s at *
  refine ⟨⟨BitVec.ofInt 8 (c0.toNat : Int) ^^^ s⟩, e, ?_⟩
  intro hc
  have hc' : c0.toBitVec = BitVec.ofInt 8 (c0.toNat : Int) ^^^ s := congrArg UInt8.toBitVec hc
  have hi : BitVec.ofInt 8 (c0.toNat : Int) = c0.toBitVec := by
    rw [BitVec.ofInt_natCast]
    apply BitVec.eq_of_toNat_eq
    rw [BitVec.toNat_ofNat]
    have := c0.toNat_lt
    show c0.toNat % 256 = c0.toNat
    omega
  rw [hi] at hc'
  apply h1
  have := congrArg (fun z : BitVec 8 => c0.toBitVec ^^^ z) hc'
  simpa [← BitVec.xor_assoc] using this.symm
theorem setB_diff {s : BA} {m : Nat} {c0 c : UInt8} (h : s.data.toList[m]? = some c0) (hc : c0 ≠ c) : Diff s (setB s m c) m := by
  obtain ⟨hm, e⟩ := List.getElem?_eq_some_iff.1 h
  refine ⟨(bl s).take m, (bl s).drop (m + 1), c0, c, ?_, ?_, hc, ?_⟩
  · have := List.take_append_drop m (bl s)
    rw [← this, List.take_append_drop]
    conv => lhs; rw [← List.take_append_drop m (bl s)]
    congr 1
    rw [← e]
    exact List.drop_eq_getElem_cons hm
  · show s.data.toList.set m c = _
    rw [List.set_eq_take_append_cons_drop, if_pos hm]
    rfl
  · rw [List.length_take]
    exact Nat.min_eq_left (Nat.le_of_lt hm)
end Go.Proofs.YtadgdikijdmceaaGreat
