import Derived.Test.YtgbmjoenbocfcaaGreatFwY
set_option linter.unusedVariables false
namespace Go.Pl
open Go Go.Fx
def byteN(v k:Nat):UInt8:=UInt8.ofNat (v / 2 ^ (8*k))
def fitsB(v:Int)(n bits:Int):Bool:=decide (64≤n*bits)||decide (shiftOf .shr .u64 v (n*bits)=0)
def putL(v n:Nat):List UInt8:=(List.range n).map (byteN v)
def putR(v n k:Nat):List (List Value):=(List.range n).map fun j=>[.int .u8 (if j<k then((byteN v j).toNat:Int)else 0)]
theorem putR_0(v n:Nat):putR v n 0=List.replicate n [.int .u8 0]:=by
 apply List.ext_getElem
 ·simp[putR]
 ·intro i h1 h2
  simp[putR]
theorem putR_set(v n k:Nat)(h:k<n):(putR v n k).set k [.int .u8 ((byteN v k).toNat:Int)]=putR v n (k+1):=by
 apply List.ext_getElem
 ·simp[putR]
 ·intro i h1 h2
  rw[List.getElem_set]
  simp only[putR,List.getElem_map,List.getElem_range]
  by_cases hi:k=i
  ·subst hi;simp
  ·simp only[hi,if_false]
   have:(i<k+1)=(i<k):=by simp;omega
   simp[this]
theorem putR_n(v n:Nat):putR v n n=(putL v n).map fun b=>[.int .u8 (b.toNat:Int)]:=by
 apply List.ext_getElem
 ·simp[putR,putL]
 ·intro i h1 h2
  have:i<n:=by simpa [putR]using h1
  simp[putR,putL,this]
theorem byte_shift(v j:Nat)(hj:j<8):IntKind.u8.wrap (shiftOf .shr .u64 (v:Int) (8*(j:Int)))=((byteN v j).toNat:Int):=by
 have e1:min (8*(j:Int)).toNat IntKind.u64.bits=8*j:=by
  show min (8*(j:Int)).toNat 64=8*j
  omega
 have e2:shiftOf .shr .u64 (v:Int) (8*(j:Int))=((v / 2 ^ (8*j):Nat):Int):=by
  show(v:Int).fdiv (2 ^ (min (8*(j:Int)).toNat IntKind.u64.bits))=_
  rw[e1]
  have:((2:Int) ^ (8*j))=((2 ^ (8*j):Nat):Int):=by simp
  rw[this,Int.natCast_ediv,Int.fdiv_eq_ediv_of_nonneg _ (Int.natCast_nonneg _)]
 rw[e2]
 have e3:(byteN v j).toNat=(v / 2 ^ (8*j)) % 256:=by unfold byteN;simp
 rw[e3]
 have e4:(2:Int) ^ IntKind.u8.bits=256:=rfl
 unfold IntKind.wrap
 simp only[e4]
 rw[if_neg (by simp[IntKind.signed])]
 omega
def getStep(v:Int)(c:UInt8)(k:Nat):Int:=bitsOf .or .u64 v (shiftOf .shl .u64 (IntKind.u64.wrap (c.toNat:Int)) (8*(k:Int)))
def getL(l:List UInt8):Nat→Int
 |0=>0
 |k+1=>match l[k]? with|some c=>getStep (getL l k) c k|none=>getL l k
def hstep(c:Int):Int:=bitsOf .xor .u32 (shiftOf .shr .u32 c 1) (bitsOf .and .u32 3988292384 (IntKind.u32.wrap (0-bitsOf .and .u32 c 1)))
def hiter:Nat→Int→Int
 |0,c=>c
 |k+1,c=>hstep (hiter k c)
def tabV(k:Nat):List Value:=(List.range 16).map fun i=>.int .u32 (if i<k then hiter 4 (i:Int)else(i:Int))
theorem tabV_len(k:Nat):(tabV k).length=16:=by simp[tabV]
theorem tabV_set(k:Nat)(h:k<16):(tabV k).take (0+k)++[.int .u32 (hiter 4 (k:Int))]++(tabV k).drop (0+k+1)=tabV (k+1):=by
 apply List.ext_getElem?
 intro i
 rw[Nat.zero_add,List.append_assoc]
 rcases Nat.lt_trichotomy i k with hi|rfl|hi
 ·rw[List.getElem?_append_left (by simp[tabV];omega),List.getElem?_take_of_lt hi]
  simp only[tabV,List.getElem?_map]
  have:i<16:=by omega
  simp[this,hi,Nat.lt_succ_of_lt hi]
 ·rw[List.getElem?_append_right (by simp[tabV];omega)]
  have e:i-(List.take i (tabV i)).length=0:=by simp[tabV];omega
  rw[e]
  simp[tabV,h]
 ·rw[List.getElem?_append_right (by simp[tabV];omega)]
  have e:(List.take k (tabV k)).length=k:=by simp[tabV];omega
  rw[e,List.getElem?_append_right (by simp;omega),List.getElem?_drop]
  have e2:k+1+(i-k- [Value.int IntKind.u32 (hiter 4 (k:Int))].length)=i:=by simp;omega
  rw[e2]
  simp only[tabV,List.getElem?_map]
  have h1:¬ i<k:=by omega
  have h2:¬ i<k+1:=by omega
  by_cases h3:i<16
  ·simp[h3,h1,h2]
  ·simp[h3]
theorem tab0_get(k:Nat)(h:k<16):(tabV 0)[k]? =some (.int .u32 (k:Int)):=by simp[tabV,h]
theorem tab16_get(m:Nat)(h:m<16):(tabV 16)[0+m]? =some (.int .u32 (hiter 4 (m:Int))):=by simp[tabV,h]
theorem and15(c:Int):∃ m:Nat,bitsOf .and .u32 c 15=(m:Int)∧m<16:=by
 have h:(BitVec.ofInt IntKind.u32.bits c&&& BitVec.ofInt IntKind.u32.bits 15).toNat<16:=by
  rw[BitVec.toNat_and]
  have:(BitVec.ofInt IntKind.u32.bits 15).toNat=15:=by decide
  rw[this]
  exact Nat.lt_of_le_of_lt Nat.and_le_right (by omega)
 refine⟨(BitVec.ofInt IntKind.u32.bits c&&& BitVec.ofInt IntKind.u32.bits 15).toNat,?_,h⟩
 show IntKind.u32.wrap _=_
 have e4:(2:Int) ^ IntKind.u32.bits=4294967296:=rfl
 unfold IntKind.wrap
 simp only[e4]
 rw[if_neg (by simp[IntKind.signed])]
 omega
def sumT(c:Int):Int:=bitsOf .xor .u32 (shiftOf .shr .u32 c 4) (hiter 4 (bitsOf .and .u32 c 15))
def sumX(c:Int)(x:UInt8):Int:=bitsOf .xor .u32 c (IntKind.u32.wrap (x.toNat:Int))
def sumL(l:List UInt8):Nat→Int
 |0=>4294967295
 |k+1=>match l[k]? with|some x=>sumT (sumT (sumX (sumL l k) x))|none=>sumL l k
def sumS(s:ByteArray):Int:=bitsOf .xor .u32 (if IntKind.u32.signed then -1 else IntKind.u32.max) (sumL s.data.toList s.size)
end Go.Pl
