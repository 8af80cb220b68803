import Derived.Test.YtadgdikijdmceaaGreatG12
import Derived.Test.YtadgdikijdmceaaGreatG8
set_option linter.unusedSimpArgs false
set_option linter.unusedVariables false
namespace Go.Proofs.YtadgdikijdmceaaGreat
open Go Go.Fx Go.Pl

def hx8 (d : Nat) : UInt8 := UInt8.ofNat (hexC d).toNat
theorem hx8_lt : ∀ d < 16, ∀ e < 16, d < e → hx8 d < hx8 e := by decide
theorem unD_hx8 : ∀ d < 16, unD (hx8 d) = some d := by decide
theorem mayC_hx8 : ∀ d < 16, mayC (hx8 d) = true := by decide
def hexL (v n : Nat) : List UInt8 := (hexR v n n).map fun c => UInt8.ofNat c.toNat
theorem hexS_list (v n : Nat) : (hexS v n).data.toList = hexL v n := by unfold hexS hexL; simp
theorem hexL_succ (v n : Nat) : hexL v (n + 1) = hx8 (v / 16 ^ n % 16) :: hexL v n := by
  unfold hexL hexR
  rw [List.range_succ_eq_map, List.map_cons, List.map_cons, List.map_map]
  congr 1
  rw [List.map_map]
  rw [List.map_map]
  apply List.map_congr_left
  intro i hi
  show UInt8.ofNat (hexC (digN v (n + 1) (i + 1))).toNat = UInt8.ofNat (hexC (digN v n i)).toNat
  unfold digN
  have : n + 1 - 1 - (i + 1) = n - 1 - i := by omega
  rw [this]
theorem hexL_lt : ∀ (n a b : Nat), a % 16 ^ n < b % 16 ^ n → hexL a n < hexL b n
  | 0, a, b, h => by simp [Nat.mod_one] at h
  | n + 1, a, b, h => by
    rw [hexL_succ, hexL_succ, List.cons_lt_cons_iff]
    rw [Nat.mod_pow_succ, Nat.mod_pow_succ] at h
    have h1 : a / 16 ^ n % 16 < 16 := Nat.mod_lt _ (by decide)
    have h2 : b / 16 ^ n % 16 < 16 := Nat.mod_lt _ (by decide)
    have hp : 0 < 16 ^ n := Nat.pow_pos (by decide)
    have h3 := Nat.mod_lt a hp
    have h4 := Nat.mod_lt b hp
    rcases Nat.lt_trichotomy (a / 16 ^ n % 16) (b / 16 ^ n % 16) with hq | hq | hq
    · exact .inl (hx8_lt _ h1 _ h2 hq)
    · rw [hq] at h ⊢
      exact .inr ⟨rfl, hexL_lt n a b (by omega)⟩
    · exfalso
      have h5 : 16 ^ n * (b / 16 ^ n % 16) + 16 ^ n ≤ 16 ^ n * (a / 16 ^ n % 16) := by
        have := Nat.mul_le_mul_left (16 ^ n) (show b / 16 ^ n % 16 + 1 ≤ a / 16 ^ n % 16 from hq)
        rw [Nat.mul_add, Nat.mul_one] at this
        exact this
      omega
theorem unL_hexL : ∀ (n v acc : Nat), unL (hexL v n) acc = some (acc * 16 ^ n + v % 16 ^ n)
  | 0, v, acc => by simp [hexL, hexR, unL, Nat.mod_one]
  | n + 1, v, acc => by
    rw [hexL_succ, unL, unD_hx8 _ (Nat.mod_lt _ (by decide))]
    dsimp only
    rw [unL_hexL n v, Nat.mod_pow_succ, Nat.pow_succ, Nat.add_mul, Nat.mul_assoc, Nat.mul_comm 16, Nat.mul_comm (v / 16 ^ n % 16)]
    congr 1
    omega
theorem p12 : (16 : Nat) ^ 12 = 281474976710656 := by decide
theorem unhexS_hexS (v : Nat) (h : v < 281474976710656) : unhexS (hexS v 12) = some v := by
  unfold unhexS
  rw [hexS_size, if_pos ⟨by decide, by decide⟩, hexS_list, unL_hexL, p12, Nat.mod_eq_of_lt h]
  simp
theorem fileT_size (name : BA) (n : Nat) : (fileT name n).size = name.size + 13 := by
  unfold fileT
  rw [ByteArray.size_append, ByteArray.size_append, hexS_size]
  show name.size + 1 + 12 = _
  omega
theorem fileT_list (name : BA) (n : Nat) : (fileT name n).data.toList = name.data.toList ++ 46 :: hexL n 12 := by
  unfold fileT
  rw [ByteArray.data_append, ByteArray.data_append, Array.toList_append, Array.toList_append, hexS_list, List.append_assoc]
  rfl
theorem fileT_lt (name : BA) {a b : Nat} (hb : b < 281474976710656) (h : a < b) : (fileT name a).data.toList < (fileT name b).data.toList := by
  rw [fileT_list, fileT_list]
  have h1 : (46 : UInt8) :: hexL a 12 < 46 :: hexL b 12 := by
    rw [List.cons_lt_cons_iff]
    exact .inr ⟨rfl, hexL_lt 12 a b (by rw [p12, Nat.mod_eq_of_lt hb, Nat.mod_eq_of_lt (by omega)]; exact h)⟩
  generalize name.data.toList = l
  induction l with
  | nil => exact h1
  | cons x l ih => rw [List.cons_append, List.cons_append, List.cons_lt_cons_iff]; exact .inr ⟨rfl, ih⟩
theorem cutP_fileT (name : BA) (n : Nat) : cutP (fileT name n) (name ++ dotT) = (hexS n 12, true) := by
  have e1 : (fileT name n).extract 0 (name ++ dotT).size = name ++ dotT := ext_left _ _ rfl
  have e2 : (fileT name n).extract (name ++ dotT).size (fileT name n).size = hexS n 12 := by
    refine ext_right _ _ rfl ?_
    unfold fileT
    rw [ByteArray.size_append]
  have e3 : ((name ++ dotT).size : Int) ≤ ((fileT name n).size : Int) := by
    rw [fileT_size, ByteArray.size_append]
    have : dotT.size = 1 := rfl
    omega
  unfold cutP hasP
  rw [e1, decide_eq_true e3]
  simp only [beq_self_eq_true, Bool.and_self, if_true]
  rw [e2]
theorem fileS_fileT (name : BA) (n : Nat) (h : n < 281474976710656) : fileS name (fileT name n) = some ⟨fileT name n, n, []⟩ := by
  unfold fileS unE
  rw [cutP_fileT]
  dsimp only
  rw [unhexS_hexS n h, hexS_size]
  simp
theorem mayN_fileT (name : BA) (n : Nat) (h : mayN name = true) (hz : name.size ≤ 32) : mayN (fileT name n) = true := by
  unfold mayN at h ⊢
  simp only [Bool.and_eq_true, decide_eq_true_eq] at h ⊢
  rw [fileT_size]
  refine ⟨⟨?_, by omega⟩, by omega⟩
  rw [fileT_list, List.all_append, h.1.1, Bool.true_and, List.all_cons]
  have h1 : mayC 46 = true := by decide
  rw [h1, Bool.true_and, List.all_eq_true]
  have : ∀ k c, c ∈ hexL n k → mayC c = true := by
    intro k
    induction k with
    | zero => intro c hc; simp [hexL, hexR] at hc
    | succ k ih =>
      intro c hc
      rw [hexL_succ] at hc
      rcases List.mem_cons.1 hc with rfl | hc
      · exact mayC_hx8 _ (Nat.mod_lt _ (by decide))
      · exact ih c hc
  exact fun c hc => this 12 c hc
end Go.Proofs.YtadgdikijdmceaaGreat
