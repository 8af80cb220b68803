/- Sums over bits, in plain Lean. -/
import Derived.Test.YtgmobpngcilgjaaWdP
set_option linter.unusedVariables false
namespace Go.Proofs.Ytgmobpngcilgjaa
open Go Go.Fx Go.Pl

/-! ### Sums -/
abbrev B32 (c : Int) : BitVec 32 := BitVec.ofInt 32 c
theorem wrap_u32n (n : Nat) (h : n < 4294967296) : IntKind.u32.wrap (n : Int) = (n : Int) := by
  have e4 : (2 : Int) ^ IntKind.u32.bits = 4294967296 := rfl
  unfold IntKind.wrap
  simp only [e4]
  rw [if_neg (by simp [IntKind.signed])]
  omega
theorem xor_u32 (a b : Int) : bitsOf .xor .u32 a b = ((B32 a ^^^ B32 b).toNat : Int) := by
  show IntKind.u32.wrap (((B32 a ^^^ B32 b).toNat : Nat) : Int) = _
  exact wrap_u32n _ (B32 a ^^^ B32 b).isLt
theorem and_u32 (a b : Int) : bitsOf .and .u32 a b = ((B32 a &&& B32 b).toNat : Int) := by
  show IntKind.u32.wrap (((B32 a &&& B32 b).toNat : Nat) : Int) = _
  exact wrap_u32n _ (B32 a &&& B32 b).isLt
theorem B32_nat (n : Nat) : B32 (n : Int) = BitVec.ofNat 32 n := BitVec.ofInt_natCast 32 n
theorem B32_toNat (x : BitVec 32) : B32 (x.toNat : Int) = x := by rw [B32_nat, BitVec.ofNat_toNat]; simp
theorem shr_u32 (x : BitVec 32) : shiftOf .shr .u32 (x.toNat : Int) 4 = ((x >>> 4).toNat : Int) := by
  show Int.fdiv (x.toNat : Int) (2 ^ (min (4 : Int).toNat 32)) = _
  have e : (2 : Int) ^ (min (4 : Int).toNat 32) = 16 := by decide
  rw [e, Int.fdiv_eq_ediv_of_nonneg _ (by decide), BitVec.toNat_ushiftRight, Nat.shiftRight_eq_div_pow]
  simp
def tabB (i : BitVec 32) : BitVec 32 := B32 (hiter 4 (i.toNat : Int))
def sumB (x : BitVec 32) : BitVec 32 := (x >>> 4) ^^^ tabB (x &&& 15#32)
theorem sumT_B (x : BitVec 32) : sumT (x.toNat : Int) = ((sumB x).toNat : Int) := by
  unfold sumT sumB tabB
  rw [xor_u32, shr_u32, and_u32, B32_toNat, B32_toNat]
  rfl
theorem low_nat (x : BitVec 32) : (x &&& 15#32).toNat = x.toNat % 16 := by
  rw [BitVec.toNat_and]
  exact Nat.and_two_pow_sub_one_eq_mod x.toNat 4
theorem tab_top : ∀ i : Fin 16, ∀ j : Fin 16, (tabB (BitVec.ofNat 32 i.1) >>> 28 = tabB (BitVec.ofNat 32 j.1) >>> 28) → i = j := by decide +kernel
theorem shift_top (x : BitVec 32) : (x >>> 4) >>> 28 = 0#32 := by
  apply BitVec.eq_of_toNat_eq
  rw [BitVec.toNat_ushiftRight, BitVec.toNat_ushiftRight, Nat.shiftRight_eq_div_pow, Nat.shiftRight_eq_div_pow]
  have := x.isLt
  simp
  omega
theorem sumB_inj {x y : BitVec 32} (h : sumB x = sumB y) : x = y := by
  have hx : (x &&& 15#32).toNat < 16 := by rw [low_nat]; omega
  have hy : (y &&& 15#32).toNat < 16 := by rw [low_nat]; omega
  have ex : x &&& 15#32 = BitVec.ofNat 32 (x &&& 15#32).toNat := by simp
  have ey : y &&& 15#32 = BitVec.ofNat 32 (y &&& 15#32).toNat := by simp
  have htop : tabB (x &&& 15#32) >>> 28 = tabB (y &&& 15#32) >>> 28 := by
    have := congrArg (fun z : BitVec 32 => z >>> 28) h
    simp only [sumB, BitVec.ushiftRight_xor_distrib, shift_top, BitVec.zero_xor] at this
    exact this
  rw [ex, ey] at htop
  have hij := tab_top ⟨_, hx⟩ ⟨_, hy⟩ htop
  have hlow : (x &&& 15#32).toNat = (y &&& 15#32).toNat := congrArg (fun z : Fin 16 => z.1) hij
  have hlow' : x &&& 15#32 = y &&& 15#32 := BitVec.eq_of_toNat_eq hlow
  have hhi : x >>> 4 = y >>> 4 := by
    unfold sumB at h
    rw [hlow'] at h
    have := congrArg (fun z : BitVec 32 => z ^^^ tabB (y &&& 15#32)) h
    simpa [BitVec.xor_assoc] using this
  have h1 := congrArg BitVec.toNat hhi
  rw [BitVec.toNat_ushiftRight, BitVec.toNat_ushiftRight, Nat.shiftRight_eq_div_pow, Nat.shiftRight_eq_div_pow] at h1
  rw [low_nat, low_nat] at hlow
  apply BitVec.eq_of_toNat_eq
  omega

def byteB (x : UInt8) : BitVec 32 := BitVec.ofNat 32 x.toNat
theorem byteB_inj {x y : UInt8} (h : byteB x = byteB y) : x = y := by
  have := congrArg BitVec.toNat h
  simp only [byteB, BitVec.toNat_ofNat] at this
  have hx := x.toNat_lt
  have hy := y.toNat_lt
  exact UInt8.toNat_inj.1 (by omega)
def stepB (c : BitVec 32) (x : UInt8) : BitVec 32 := sumB (sumB (c ^^^ byteB x))
theorem xor_inj {a b c : BitVec 32} (h : a ^^^ c = b ^^^ c) : a = b := by
  have := congrArg (fun z : BitVec 32 => z ^^^ c) h
  simpa [BitVec.xor_assoc] using this
theorem stepB_inj {c c' : BitVec 32} {x : UInt8} (h : stepB c x = stepB c' x) : c = c' := xor_inj (sumB_inj (sumB_inj h))
theorem stepB_byte {c : BitVec 32} {x y : UInt8} (h : stepB c x = stepB c y) : x = y := by
  have h1 := sumB_inj (sumB_inj h)
  rw [BitVec.xor_comm c, BitVec.xor_comm c] at h1
  exact byteB_inj (xor_inj h1)
theorem sumL_fold (l : List UInt8) : ∀ k, k ≤ l.length → sumL l k = (((l.take k).foldl stepB 4294967295#32).toNat : Int)
  | 0, _ => rfl
  | k + 1, h => by
    have ih := sumL_fold l k (by omega)
    have hk : k < l.length := by omega
    have hx : l[k]? = some l[k] := List.getElem?_eq_getElem hk
    have htk : l.take (k + 1) = l.take k ++ [l[k]] := List.take_succ_eq_append_getElem hk
    show (match l[k]? with | some x => sumT (sumT (sumX (sumL l k) x)) | none => sumL l k) = _
    rw [hx, htk, List.foldl_append, ih]
    dsimp only [List.foldl_cons, List.foldl_nil]
    generalize (l.take k).foldl stepB 4294967295#32 = c
    have e1 : sumX (c.toNat : Int) l[k] = ((c ^^^ byteB l[k]).toNat : Int) := by
      unfold sumX
      rw [xor_u32, B32_toNat, wrap_u32n _ (by have := l[k].toNat_lt; omega), B32_nat]; rfl
    rw [e1, sumT_B, sumT_B]; rfl
end Go.Proofs.Ytgmobpngcilgjaa
