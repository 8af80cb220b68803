/- Texts merged: WdP WdS. -/
import Derived.Test.YtadgdikijdmceaaGreatFwY
set_option linter.unusedVariables false
namespace Go.Pl
open Go Go.Fx

def byteN (v k : Nat) : UInt8 := UInt8.ofNat (v / 2 ^ (8 * k))
def fitsB (v : Int) (n bits : Int) : Bool := decide (64 ≤ n * bits) || decide (shiftOf .shr .u64 v (n * bits) = 0)
def putL (v n : Nat) : List UInt8 := (List.range n).map (byteN v)
def putR (v n k : Nat) : List (List Value) := (List.range n).map fun j => [.int .u8 (if j < k then ((byteN v j).toNat : Int) else 0)]

theorem putR_0 (v n : Nat) : putR v n 0 = List.replicate n [.int .u8 0] := by
  apply List.ext_getElem
  · simp [putR]
  · intro i h1 h2
    simp [putR]
theorem putR_set (v n k : Nat) (h : k < n) : (putR v n k).set k [.int .u8 ((byteN v k).toNat : Int)] = putR v n (k + 1) := by
  apply List.ext_getElem
  · simp [putR]
  · intro i h1 h2
    rw [List.getElem_set]
    simp only [putR, List.getElem_map, List.getElem_range]
    by_cases hi : k = i
    · subst hi; simp
    · simp only [hi, if_false]
      have : (i < k + 1) = (i < k) := by simp; omega
      simp [this]
theorem putR_n (v n : Nat) : putR v n n = (putL v n).map fun b => [.int .u8 (b.toNat : Int)] := by
  apply List.ext_getElem
  · simp [putR, putL]
  · intro i h1 h2
    have : i < n := by simpa [putR] using h1
    simp [putR, putL, this]
theorem byte_shift (v j : Nat) (hj : j < 8) : IntKind.u8.wrap (shiftOf .shr .u64 (v : Int) (8 * (j : Int))) = ((byteN v j).toNat : Int) := by
  have e1 : min (8 * (j : Int)).toNat IntKind.u64.bits = 8 * j := by
    show min (8 * (j : Int)).toNat 64 = 8 * j
    omega
  have e2 : shiftOf .shr .u64 (v : Int) (8 * (j : Int)) = ((v / 2 ^ (8 * j) : Nat) : Int) := by
    show (v : Int).fdiv (2 ^ (min (8 * (j : Int)).toNat IntKind.u64.bits)) = _
    rw [e1]
    have : ((2 : Int) ^ (8 * j)) = ((2 ^ (8 * j) : Nat) : Int) := by simp
    rw [this, Int.natCast_ediv, Int.fdiv_eq_ediv_of_nonneg _ (Int.natCast_nonneg _)]
  rw [e2]
  have e3 : (byteN v j).toNat = (v / 2 ^ (8 * j)) % 256 := by unfold byteN; simp
  rw [e3]
  have e4 : (2 : Int) ^ IntKind.u8.bits = 256 := rfl
  unfold IntKind.wrap
  simp only [e4]
  rw [if_neg (by simp [IntKind.signed])]
  omega

def getStep (v : Int) (c : UInt8) (k : Nat) : Int := bitsOf .or .u64 v (shiftOf .shl .u64 (IntKind.u64.wrap (c.toNat : Int)) (8 * (k : Int)))
def getL (l : List UInt8) : Nat → Int
  | 0 => 0
  | k + 1 => match l[k]? with | some c => getStep (getL l k) c k | none => getL l k

def hstep (c : Int) : Int := bitsOf .xor .u32 (shiftOf .shr .u32 c 1) (bitsOf .and .u32 3988292384 (IntKind.u32.wrap (0 - bitsOf .and .u32 c 1)))
def hiter : Nat → Int → Int
  | 0, c => c
  | k + 1, c => hstep (hiter k c)
def tabV (k : Nat) : List Value := (List.range 16).map fun i => .int .u32 (if i < k then hiter 4 (i : Int) else (i : Int))
theorem tabV_len (k : Nat) : (tabV k).length = 16 := by simp [tabV]
theorem tabV_set (k : Nat) (h : k < 16) : (tabV k).take (0 + k) ++ [.int .u32 (hiter 4 (k : Int))] ++ (tabV k).drop (0 + k + 1) = tabV (k + 1) := by
  apply List.ext_getElem?
  intro i
  rw [Nat.zero_add, List.append_assoc]
  rcases Nat.lt_trichotomy i k with hi | rfl | hi
  · rw [List.getElem?_append_left (by simp [tabV]; omega), List.getElem?_take_of_lt hi]
    simp only [tabV, List.getElem?_map]
    have : i < 16 := by omega
    simp [this, hi, Nat.lt_succ_of_lt hi]
  · rw [List.getElem?_append_right (by simp [tabV]; omega)]
    have e : i - (List.take i (tabV i)).length = 0 := by simp [tabV]; omega
    rw [e]
    simp [tabV, h]
  · rw [List.getElem?_append_right (by simp [tabV]; omega)]
    have e : (List.take k (tabV k)).length = k := by simp [tabV]; omega
    rw [e, List.getElem?_append_right (by simp; omega), List.getElem?_drop]
    have e2 : k + 1 + (i - k - [Value.int IntKind.u32 (hiter 4 (k : Int))].length) = i := by simp; omega
    rw [e2]
    simp only [tabV, List.getElem?_map]
    have h1 : ¬ i < k := by omega
    have h2 : ¬ i < k + 1 := by omega
    by_cases h3 : i < 16
    · simp [h3, h1, h2]
    · simp [h3]
theorem tab0_get (k : Nat) (h : k < 16) : (tabV 0)[k]? = some (.int .u32 (k : Int)) := by simp [tabV, h]
theorem tab16_get (m : Nat) (h : m < 16) : (tabV 16)[0 + m]? = some (.int .u32 (hiter 4 (m : Int))) := by simp [tabV, h]
theorem and15 (c : Int) : ∃ m : Nat, bitsOf .and .u32 c 15 = (m : Int) ∧ m < 16 := by
  have h : (BitVec.ofInt IntKind.u32.bits c &&& BitVec.ofInt IntKind.u32.bits 15).toNat < 16 := by
    rw [BitVec.toNat_and]
    have : (BitVec.ofInt IntKind.u32.bits 15).toNat = 15 := by decide
    rw [this]
    exact Nat.lt_of_le_of_lt Nat.and_le_right (by omega)
  refine ⟨(BitVec.ofInt IntKind.u32.bits c &&& BitVec.ofInt IntKind.u32.bits 15).toNat, ?_, h⟩
  show IntKind.u32.wrap _ = _
  have e4 : (2 : Int) ^ IntKind.u32.bits = 4294967296 := rfl
  unfold IntKind.wrap
  simp only [e4]
  rw [if_neg (by simp [IntKind.signed])]
  omega
def sumT (c : Int) : Int := bitsOf .xor .u32 (shiftOf .shr .u32 c 4) (hiter 4 (bitsOf .and .u32 c 15))
def sumX (c : Int) (x : UInt8) : Int := bitsOf .xor .u32 c (IntKind.u32.wrap (x.toNat : Int))
def sumL (l : List UInt8) : Nat → Int
  | 0 => 4294967295
  | k + 1 => match l[k]? with | some x => sumT (sumT (sumX (sumL l k) x)) | none => sumL l k
def sumS (s : ByteArray) : Int := bitsOf .xor .u32 (if IntKind.u32.signed then -1 else IntKind.u32.max) (sumL s.data.toList s.size)
end Go.Pl
set_option linter.unusedVariables false
namespace Go.Proofs.YtadgdikijdmceaaGreat
open Go Go.Fx Go.Pl

abbrev B32 (c : Int) : BitVec 32 := BitVec.ofInt 32 c
theorem wrap_u32n (n : Nat) (h : n < 4294967296) : IntKind.u32.wrap (n : Int) = (n : Int) := by
  have e4 : (2 : Int) ^ IntKind.u32.bits = 4294967296 := rfl
  unfold IntKind.wrap
  simp only [e4]
  rw [if_neg (by simp [IntKind.signed])]
  omega
theorem xor_u32 (a b : Int) : bitsOf .xor .u32 a b = ((B32 a ^^^ B32 b).toNat : Int) := by
  show IntKind.u32.wrap (((B32 a ^^^ B32 b).toNat : Nat) : Int) = _
  exact wrap_u32n _ (B32 a ^^^ B32 b).isLt
theorem and_u32 (a b : Int) : bitsOf .and .u32 a b = ((B32 a &&& B32 b).toNat : Int) := by
  show IntKind.u32.wrap (((B32 a &&& B32 b).toNat : Nat) : Int) = _
  exact wrap_u32n _ (B32 a &&& B32 b).isLt
theorem B32_nat (n : Nat) : B32 (n : Int) = BitVec.ofNat 32 n := BitVec.ofInt_natCast 32 n
theorem B32_toNat (x : BitVec 32) : B32 (x.toNat : Int) = x := by rw [B32_nat, BitVec.ofNat_toNat]; simp
theorem shr_u32 (x : BitVec 32) : shiftOf .shr .u32 (x.toNat : Int) 4 = ((x >>> 4).toNat : Int) := by
  show Int.fdiv (x.toNat : Int) (2 ^ (min (4 : Int).toNat 32)) = _
  have e : (2 : Int) ^ (min (4 : Int).toNat 32) = 16 := by decide
  rw [e, Int.fdiv_eq_ediv_of_nonneg _ (by decide), BitVec.toNat_ushiftRight, Nat.shiftRight_eq_div_pow]
  simp
def tabB (i : BitVec 32) : BitVec 32 := B32 (hiter 4 (i.toNat : Int))
def sumB (x : BitVec 32) : BitVec 32 := (x >>> 4) ^^^ tabB (x &&& 15#32)
theorem sumT_B (x : BitVec 32) : sumT (x.toNat : Int) = ((sumB x).toNat : Int) := by
  unfold sumT sumB tabB
  rw [xor_u32, shr_u32, and_u32, B32_toNat, B32_toNat]
  rfl
theorem low_nat (x : BitVec 32) : (x &&& 15#32).toNat = x.toNat % 16 := by
  rw [BitVec.toNat_and]
  exact Nat.and_two_pow_sub_one_eq_mod x.toNat 4
theorem tab_top : ∀ i : Fin 16, ∀ j : Fin 16, (tabB (BitVec.ofNat 32 i.1) >>> 28 = tabB (BitVec.ofNat 32 j.1) >>> 28) → i = j := by decide +kernel
theorem shift_top (x : BitVec 32) : (x >>> 4) >>> 28 = 0#32 := by
  apply BitVec.eq_of_toNat_eq
  rw [BitVec.toNat_ushiftRight, BitVec.toNat_ushiftRight, Nat.shiftRight_eq_div_pow, Nat.shiftRight_eq_div_pow]
  have := x.isLt
  simp
  omega
theorem sumB_inj {x y : BitVec 32} (h : sumB x = sumB y) : x = y := by
  have hx : (x &&& 15#32).toNat < 16 := by rw [low_nat]; omega
  have hy : (y &&& 15#32).toNat < 16 := by rw [low_nat]; omega
  have ex : x &&& 15#32 = BitVec.ofNat 32 (x &&& 15#32).toNat := by simp
  have ey : y &&& 15#32 = BitVec.ofNat 32 (y &&& 15#32).toNat := by simp
  have htop : tabB (x &&& 15#32) >>> 28 = tabB (y &&& 15#32) >>> 28 := by
    have := congrArg (fun z : BitVec 32 => z >>> 28) h
    simp only [sumB, BitVec.ushiftRight_xor_distrib, shift_top, BitVec.zero_xor] at this
    exact this
  rw [ex, ey] at htop
  have hij := tab_top ⟨_, hx⟩ ⟨_, hy⟩ htop
  have hlow : (x &&& 15#32).toNat = (y &&& 15#32).toNat := congrArg (fun z : Fin 16 => z.1) hij
  have hlow' : x &&& 15#32 = y &&& 15#32 := BitVec.eq_of_toNat_eq hlow
  have hhi : x >>> 4 = y >>> 4 := by
    unfold sumB at h
    rw [hlow'] at h
    have := congrArg (fun z : BitVec 32 => z ^^^ tabB (y &&& 15#32)) h
    simpa [BitVec.xor_assoc] using this
  have h1 := congrArg BitVec.toNat hhi
  rw [BitVec.toNat_ushiftRight, BitVec.toNat_ushiftRight, Nat.shiftRight_eq_div_pow, Nat.shiftRight_eq_div_pow] at h1
  rw [low_nat, low_nat] at hlow
  apply BitVec.eq_of_toNat_eq
  omega

def byteB (x : UInt8) : BitVec 32 := BitVec.ofNat 32 x.toNat
theorem byteB_inj {x y : UInt8} (h : byteB x = byteB y) : x = y := by
  have := congrArg BitVec.toNat h
  simp only [byteB, BitVec.toNat_ofNat] at this
  have hx := x.toNat_lt
  have hy := y.toNat_lt
  exact UInt8.toNat_inj.1 (by omega)
def stepB (c : BitVec 32) (x : UInt8) : BitVec 32 := sumB (sumB (c ^^^ byteB x))
theorem xor_inj {a b c : BitVec 32} (h : a ^^^ c = b ^^^ c) : a = b := by
  have := congrArg (fun z : BitVec 32 => z ^^^ c) h
  simpa [BitVec.xor_assoc] using this
theorem stepB_inj {c c' : BitVec 32} {x : UInt8} (h : stepB c x = stepB c' x) : c = c' := xor_inj (sumB_inj (sumB_inj h))
theorem stepB_byte {c : BitVec 32} {x y : UInt8} (h : stepB c x = stepB c y) : x = y := by
  have h1 := sumB_inj (sumB_inj h)
  rw [BitVec.xor_comm c, BitVec.xor_comm c] at h1
  exact byteB_inj (xor_inj h1)
theorem sumL_fold (l : List UInt8) : ∀ k, k ≤ l.length → sumL l k = (((l.take k).foldl stepB 4294967295#32).toNat : Int)
  | 0, _ => rfl
  | k + 1, h => by
    have ih := sumL_fold l k (by omega)
    have hk : k < l.length := by omega
    have hx : l[k]? = some l[k] := List.getElem?_eq_getElem hk
    have htk : l.take (k + 1) = l.take k ++ [l[k]] := List.take_succ_eq_append_getElem hk
    show (match l[k]? with | some x => sumT (sumT (sumX (sumL l k) x)) | none => sumL l k) = _
    rw [hx, htk, List.foldl_append, ih]
    dsimp only [List.foldl_cons, List.foldl_nil]
    generalize (l.take k).foldl stepB 4294967295#32 = c
    have e1 : sumX (c.toNat : Int) l[k] = ((c ^^^ byteB l[k]).toNat : Int) := by
      unfold sumX
      rw [xor_u32, B32_toNat, wrap_u32n _ (by have := l[k].toNat_lt; omega), B32_nat]; rfl
    rw [e1, sumT_B, sumT_B]; rfl
end Go.Proofs.YtadgdikijdmceaaGreat
