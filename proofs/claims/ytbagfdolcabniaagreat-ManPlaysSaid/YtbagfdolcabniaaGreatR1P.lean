/- The document's words (layer 1), in plain Lean: a sum bit by bit is the sum by halves. -/
import Derived.Test.YtbagfdolcabniaaGreatG6
set_option linter.unusedVariables false
namespace Go.Proofs.YtbagfdolcabniaaGreat
open Go Go.Fx Go.Pl

def stepR (x : BitVec 32) : BitVec 32 := (x >>> 1) ^^^ (bif x.getLsbD 0 then 3988292384#32 else 0#32)
theorem stepR_xor (a b : BitVec 32) (h : a.getLsbD 0 = false) : stepR (a ^^^ b) = (a >>> 1) ^^^ stepR b := by
  unfold stepR
  rw [BitVec.getLsbD_xor, h, Bool.false_xor, BitVec.ushiftRight_xor_distrib, BitVec.xor_assoc]
def iterR : Nat → BitVec 32 → BitVec 32
  | 0, x => x
  | k + 1, x => stepR (iterR k x)
theorem iterR_xor (a b : BitVec 32) : ∀ k, (∀ j, j < k → a.getLsbD j = false) → iterR k (a ^^^ b) = (a >>> k) ^^^ iterR k b
  | 0, _ => by simp [iterR]
  | k + 1, h => by
    show stepR (iterR k (a ^^^ b)) = (a >>> (k + 1)) ^^^ stepR (iterR k b)
    rw [iterR_xor a b k (fun j hj => h j (by omega)), stepR_xor _ _ (by rw [BitVec.getLsbD_ushiftRight]; exact h k (by omega)), ← BitVec.shiftRight_add]
theorem iterR_add (x : BitVec 32) (j : Nat) : ∀ k, iterR (j + k) x = iterR k (iterR j x)
  | 0 => rfl
  | k + 1 => by show stepR (iterR (j + k) x) = stepR (iterR k (iterR j x)); rw [iterR_add x j k]
theorem bit0 (x : BitVec 32) : x.getLsbD 0 = decide (x.toNat % 2 = 1) := by
  show x.toNat.testBit 0 = _
  rw [Nat.testBit_zero]
theorem shr1_u32 (x : BitVec 32) : shiftOf .shr .u32 (x.toNat : Int) 1 = ((x >>> 1).toNat : Int) := by
  show Int.fdiv (x.toNat : Int) (2 ^ (min (1 : Int).toNat 32)) = _
  have e : (2 : Int) ^ (min (1 : Int).toNat 32) = 2 := by decide
  rw [e, Int.fdiv_eq_ediv_of_nonneg _ (by decide), BitVec.toNat_ushiftRight, Nat.shiftRight_eq_div_pow]
  simp
theorem and1 (x : BitVec 32) : (x &&& 1#32).toNat = x.toNat % 2 := by
  rw [BitVec.toNat_and]
  exact Nat.and_two_pow_sub_one_eq_mod x.toNat 1
theorem hstep_R (x : BitVec 32) : hstep (x.toNat : Int) = ((stepR x).toNat : Int) := by
  unfold hstep stepR
  rw [shr1_u32, and_u32 (x.toNat : Int) 1, B32_toNat, show B32 1 = 1#32 from rfl, and1, bit0]
  rcases Nat.mod_two_eq_zero_or_one x.toNat with h | h
  · rw [h, show IntKind.u32.wrap (0 - ((0 : Nat) : Int)) = 0 from rfl, show bitsOf .and .u32 3988292384 0 = 0 from rfl, xor_u32, B32_toNat]
    rfl
  · rw [h, show IntKind.u32.wrap (0 - ((1 : Nat) : Int)) = 4294967295 from rfl, show bitsOf .and .u32 3988292384 4294967295 = 3988292384 from rfl, xor_u32, B32_toNat]
    rfl
theorem hiter_R (x : BitVec 32) : ∀ k, hiter k (x.toNat : Int) = ((iterR k x).toNat : Int)
  | 0 => rfl
  | k + 1 => by show hstep (hiter k (x.toNat : Int)) = _; rw [hiter_R x k, hstep_R]; rfl
theorem sumB_R (x : BitVec 32) : sumB x = iterR 4 x := by
  have e : x = (x &&& ~~~15#32) ^^^ (x &&& 15#32) := by
    apply BitVec.eq_of_getLsbD_eq
    intro i hi
    simp only [BitVec.getLsbD_xor, BitVec.getLsbD_and, BitVec.getLsbD_not, hi, decide_true, Bool.true_and]
    cases x.getLsbD i <;> cases (15#32).getLsbD i <;> rfl
  have e2 : (x &&& ~~~15#32) >>> 4 = x >>> 4 := by
    apply BitVec.eq_of_getLsbD_eq
    intro i hi
    rw [BitVec.getLsbD_ushiftRight, BitVec.getLsbD_ushiftRight, BitVec.getLsbD_and, BitVec.getLsbD_not]
    by_cases h : 4 + i < 32
    · have h15 : ∀ j : Fin 32, (15#32).getLsbD (4 + j.1) = false := by decide
      rw [h15 ⟨i, by omega⟩]
      simp [h]
    · have : x.getLsbD (4 + i) = false := BitVec.getLsbD_of_ge _ _ (by omega)
      rw [this]; rfl
  have h0 : ∀ j, j < 4 → (x &&& ~~~15#32).getLsbD j = false := by
    intro j hj
    have h15 : ∀ j : Fin 4, (~~~15#32).getLsbD j.1 = false := by decide
    rw [BitVec.getLsbD_and, h15 ⟨j, hj⟩, Bool.and_false]
  have h1 := iterR_xor (x &&& ~~~15#32) (x &&& 15#32) 4 h0
  rw [← e, e2] at h1
  rw [h1]
  unfold sumB tabB
  rw [hiter_R, B32_toNat]

/-- A step of the document's. -/
def rstep (c : Int) : Int := if c.tmod 2 = 1 then bitsOf .xor .u32 (IntKind.u32.wrap (c.tdiv 2)) 3988292384 else IntKind.u32.wrap (c.tdiv 2)
def riter : Nat → Int → Int
  | 0, c => c
  | k + 1, c => rstep (riter k c)
theorem rstep_R (x : BitVec 32) : rstep (x.toNat : Int) = ((stepR x).toNat : Int) := by
  unfold rstep stepR
  have e1 : (x.toNat : Int).tmod 2 = ((x.toNat % 2 : Nat) : Int) := by rw [Int.tmod_eq_emod_of_nonneg (by omega)]; simp
  have e2 : IntKind.u32.wrap ((x.toNat : Int).tdiv 2) = ((x >>> 1).toNat : Int) := by
    rw [Int.tdiv_eq_ediv_of_nonneg (by omega), BitVec.toNat_ushiftRight, Nat.shiftRight_eq_div_pow]
    have := x.isLt
    have e : (x.toNat : Int) / 2 = ((x.toNat / 2 ^ 1 : Nat) : Int) := by simp
    rw [e]
    exact wrap_u32n _ (by omega)
  rw [e1, e2, bit0]
  rcases Nat.mod_two_eq_zero_or_one x.toNat with h | h
  · rw [h, if_neg (by decide)]; simp
  · rw [h, if_pos (by decide), xor_u32, B32_toNat]; rfl
theorem riter_R (x : BitVec 32) : ∀ k, riter k (x.toNat : Int) = ((iterR k x).toNat : Int)
  | 0 => rfl
  | k + 1 => by show rstep (riter k (x.toNat : Int)) = _; rw [riter_R x k, rstep_R]; rfl
theorem sumT_riter (x : BitVec 32) : sumT (sumT (x.toNat : Int)) = riter 8 (x.toNat : Int) := by
  rw [sumT_B, sumT_B, riter_R, sumB_R, sumB_R, ← iterR_add x 4 4]
/-- A byte's eight steps are two halves. -/
theorem sumL_next (l : List UInt8) (k : Nat) (x : UInt8) (h : l[k]? = some x) : sumL l (k + 1) = riter 8 (sumX (sumL l k) x) := by
  have hk : k ≤ l.length := by have := (List.getElem?_eq_some_iff.1 h).1; omega
  show (match l[k]? with | some x => sumT (sumT (sumX (sumL l k) x)) | none => sumL l k) = _
  rw [h]
  dsimp only
  rw [sumL_fold l k hk]
  generalize (l.take k).foldl stepB 4294967295#32 = c
  have e1 : sumX (c.toNat : Int) x = ((c ^^^ byteB x).toNat : Int) := by
    unfold sumX
    rw [xor_u32, B32_toNat, wrap_u32n _ (by have := x.toNat_lt; omega), B32_nat]; rfl
  rw [e1, sumT_riter]
end Go.Proofs.YtbagfdolcabniaaGreat
