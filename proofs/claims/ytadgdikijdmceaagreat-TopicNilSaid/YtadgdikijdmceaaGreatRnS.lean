import Derived.Test.YtadgdikijdmceaaGreatFrR
import Derived.Test.YtadgdikijdmceaaGreatG8
import Derived.Test.YtadgdikijdmceaaGreatG0
set_option linter.unusedVariables false
namespace Go.Proofs.YtadgdikijdmceaaGreat
open Go Go.Fx Go.Pl

theorem fold_inj : ∀ (l : List UInt8) {c c' : BitVec 32}, l.foldl stepB c = l.foldl stepB c' → c = c'
  | [], _, _, h => h
  | x :: l, _, _, h => stepB_inj (fold_inj l h)
theorem sumS_diff {s t : BA} {a b : List UInt8} {x y : UInt8} (hs : bl s = a ++ x :: b) (ht : bl t = a ++ y :: b) (hxy : x ≠ y) : sumS s ≠ sumS t := by
  intro h
  unfold sumS at h
  have ls : (bl s).length = s.size := bl_len s
  have lt : (bl t).length = t.size := bl_len t
  rw [show s.data.toList = bl s from rfl, show t.data.toList = bl t from rfl, sumL_fold _ _ (by omega), sumL_fold _ _ (by omega), List.take_of_length_le (by omega), List.take_of_length_le (by omega), xor_u32, xor_u32, B32_toNat, B32_toNat] at h
  have h1 : (B32 (if IntKind.u32.signed then -1 else IntKind.u32.max) ^^^ (bl s).foldl stepB 4294967295#32) = (B32 (if IntKind.u32.signed then -1 else IntKind.u32.max) ^^^ (bl t).foldl stepB 4294967295#32) := BitVec.eq_of_toNat_eq (by exact_mod_cast h)
  rw [BitVec.xor_comm, BitVec.xor_comm (B32 _)] at h1
  have h2 := xor_inj h1
  rw [hs, ht, List.foldl_append, List.foldl_append, List.foldl_cons, List.foldl_cons] at h2
  exact hxy (stepB_byte (fold_inj b h2))

def nat4 : List UInt8 → Nat
  | [] => 0
  | x :: l => x.toNat + 256 * nat4 l
theorem nat4_inj : ∀ {a b : List UInt8}, a.length = b.length → nat4 a = nat4 b → a = b
  | [], [], _, _ => rfl
  | [], _ :: _, h, _ => by simp at h
  | _ :: _, [], h, _ => by simp at h
  | x :: a, y :: b, hl, h => by
    simp only [nat4] at h
    have hx := x.toNat_lt
    have hy := y.toNat_lt
    have h1 : x.toNat = y.toNat := by omega
    have h2 : nat4 a = nat4 b := by omega
    rw [UInt8.toNat_inj.1 h1, nat4_inj (by simpa using hl) h2]
theorem nat4_lt : ∀ a : List UInt8, nat4 a < 256 ^ a.length
  | [] => by simp [nat4]
  | x :: a => by
    have := nat4_lt a
    have hx := x.toNat_lt
    simp only [nat4, List.length_cons, Nat.pow_succ]
    omega
theorem byteN_nat4 : ∀ (a : List UInt8) (k : Nat) (h : k < a.length), byteN (nat4 a) k = a[k]
  | [], k, h => by simp at h
  | x :: a, 0, h => by
    apply UInt8.toNat_inj.1
    have hx := x.toNat_lt
    simp only [byteN, nat4, Nat.mul_zero, Nat.pow_zero, Nat.div_one, List.getElem_cons_zero]
    simp
  | x :: a, k + 1, h => by
    have ih := byteN_nat4 a k (by simpa using h)
    rw [List.getElem_cons_succ, ← ih]
    apply UInt8.toNat_inj.1
    have hx := x.toNat_lt
    unfold byteN
    simp only [nat4]
    have e : (x.toNat + 256 * nat4 a) / 2 ^ (8 * (k + 1)) = nat4 a / 2 ^ (8 * k) := by
      rw [show 8 * (k + 1) = 8 + 8 * k by omega, Nat.pow_add, ← Nat.div_div_eq_div_mul]
      congr 1
      omega
    rw [e]
theorem putL_nat4 (a : List UInt8) : putL (nat4 a) a.length = a := by
  apply List.ext_getElem?
  intro i
  unfold putL
  by_cases h : i < a.length
  · simp [h, byteN_nat4 a i h]
  · simp [h]
theorem getU_nat4 (s : BA) (h : s.size = 4) : getU s = (nat4 (bl s) : Int) := by
  have hl : (bl s).length = 4 := by rw [bl_len]; exact h
  have h1 := nat4_lt (bl s)
  rw [hl] at h1
  have h2 := put4_get (nat4 (bl s)) (by simpa using h1)
  have h3 : put4 (nat4 (bl s)) = s := by
    apply bl_inj
    show putL (nat4 (bl s)) 4 = bl s
    have := putL_nat4 (bl s)
    rw [hl] at this
    exact this
  rw [h3] at h2
  exact h2

structure Diff (s t : BA) (i : Nat) : Prop where
  ex : ∃ a b x y, bl s = a ++ x :: b ∧ bl t = a ++ y :: b ∧ x ≠ y ∧ a.length = i
theorem Diff.size {s t : BA} {i : Nat} (h : Diff s t i) : s.size = t.size ∧ i < s.size := by
  obtain ⟨a, b, x, y, h1, h2, _, h4⟩ := h.ex
  have e1 := bl_len s
  have e2 := bl_len t
  rw [h1] at e1
  rw [h2] at e2
  simp only [List.length_append, List.length_cons] at e1 e2
  omega
theorem Diff.out {s t : BA} {i : Nat} (h : Diff s t i) {n m : Nat} (ho : i < n ∨ m ≤ i) : s.extract n m = t.extract n m := by
  obtain ⟨a, b, x, y, h1, h2, _, h4⟩ := h.ex
  apply bl_inj
  rw [bl_ext, bl_ext, h1, h2]
  rcases ho with ho | ho
  · congr 1
    have e : ∀ z : UInt8, (a ++ z :: b).drop n = b.drop (n - (i + 1)) := by
      intro z
      rw [List.drop_append, List.drop_of_length_le (by omega), List.nil_append, show n - a.length = (n - (i + 1)) + 1 by omega, List.drop_succ_cons]
    rw [e, e]
  · by_cases hnm : m ≤ n
    · rw [show m - n = 0 by omega]; simp
    · have e : ∀ z : UInt8, ((a ++ z :: b).drop n).take (m - n) = (a.drop n).take (m - n) := by
        intro z
        rw [List.drop_append, List.take_append]
        rw [List.length_drop, show m - n - (a.length - n) = 0 by omega]
        simp
      rw [e, e]
theorem Diff.sum {s t : BA} {i : Nat} (h : Diff s t i) : sumS s ≠ sumS t := by
  obtain ⟨a, b, x, y, h1, h2, h3, _⟩ := h.ex
  exact sumS_diff h1 h2 h3
theorem Diff.getU {s t : BA} {i : Nat} (h : Diff s t i) (hz : s.size = 4) : getU s ≠ getU t := by
  have hs := h.size.1
  obtain ⟨a, b, x, y, h1, h2, h3, _⟩ := h.ex
  rw [getU_nat4 s hz, getU_nat4 t (by omega)]
  intro e
  have : bl s = bl t := nat4_inj (by rw [bl_len, bl_len]; exact hs) (by exact_mod_cast e)
  rw [h1, h2] at this
  have := List.append_cancel_left this
  simp only [List.cons.injEq] at this
  exact h3 this.1

theorem ext_split (u : BA) (n : Nat) (h : n ≤ u.size) : u = u.extract 0 n ++ u.extract n u.size := by
  apply bl_inj
  rw [bl_app, bl_ext, bl_ext, List.drop_zero, Nat.sub_zero]
  rw [List.take_of_length_le (i := u.size - n) (by rw [List.length_drop, bl_len]; omega), List.take_append_drop]
end Go.Proofs.YtadgdikijdmceaaGreat
