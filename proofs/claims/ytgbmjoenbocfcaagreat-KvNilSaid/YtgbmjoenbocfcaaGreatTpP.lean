import Derived.Test.YtgbmjoenbocfcaaGreatWdP
import Derived.Test.YtgbmjoenbocfcaaGreatFwFy
set_option linter.unusedSimpArgs false
set_option linter.unusedVariables false
namespace Go.Pl
open Go Go.Fx
def digN(v n j:Nat):Nat:=v / 16 ^ (n-1-j) % 16
def hexC(d:Nat):Int:=if 9<d then 87+d else 48+d
def hexR(v n j:Nat):List Int:=(List.range j).map fun i=>hexC (digN v n i)
def hexS(v n:Nat):ByteArray:=⟨((hexR v n n).map fun c=>UInt8.ofNat c.toNat).toArray⟩
theorem digN_lt(v n j:Nat):digN v n j<16:=Nat.mod_lt _ (by decide)
theorem hexC_rng{d:Nat}(h:d<16):48≤hexC d∧hexC d≤102:=by unfold hexC;split<;>omega
theorem hexR_succ(v n j:Nat):hexR v n (j+1)=hexR v n j++[hexC (digN v n j)]:=by unfold hexR;rw[List.range_succ,List.map_append];rfl
theorem hexR_len(v n j:Nat):(hexR v n j).length=j:=by simp[hexR]
theorem hexR_rng{v n j:Nat}{c:Int}(h:c∈hexR v n j):48≤c∧c≤102:=by
 unfold hexR at h
 obtain⟨i,_,rfl⟩:=List.mem_map.1 h
 exact hexC_rng (digN_lt _ _ _)
theorem hexS_size(v n:Nat):(hexS v n).size=n:=by show((hexR v n n).map _).toArray.size=n;simp[hexR]
theorem encode_ascii{c:Int}(h0:0≤c)(h1:c<128):Utf8.encode c=⟨#[UInt8.ofNat c.toNat]⟩:=by
 have hv:Utf8.valid c=true:=by unfold Utf8.valid;simp;omega
 unfold Utf8.encode
 simp only[hv,if_true]
 rw[if_pos (by omega)]
theorem runes_ascii:∀ (l:List Int),(∀ c∈l,0≤c∧c<128)→runesBytes l=⟨(l.map fun c=>UInt8.ofNat c.toNat).toArray⟩:=by
 have key:∀ (l:List Int) (s:ByteArray),(∀ c∈l,0≤c∧c<128)→l.foldl (fun r n=>r++Utf8.encode n) s=s++⟨(l.map fun c=>UInt8.ofNat c.toNat).toArray⟩:=by
  intro l
  induction l with
  |nil=>
   intro s _
   apply ByteArray.ext
   simp[ByteArray.data_append]
  |cons c l ih=>
   intro s h
   rw[List.foldl_cons,ih _ (fun x hx=>h x (List.mem_cons_of_mem _ hx)),encode_ascii (h c (List.mem_cons_self ..)).1 (h c (List.mem_cons_self ..)).2]
   apply ByteArray.ext
   simp[ByteArray.data_append]
 intro l h
 unfold runesBytes
 rw[key l _ h]
 apply ByteArray.ext
 simp[ByteArray.data_append]
theorem and15_eq(x:Nat)(hx:x<18446744073709551616):bitsOf .and .u64 (x:Int) 15=((x % 16:Nat):Int):=by
 have e2:(BitVec.ofInt 64 (x:Int)&&& BitVec.ofInt 64 15).toNat=x % 16:=by
  rw[BitVec.toNat_and,BitVec.ofInt_natCast,BitVec.toNat_ofNat,Nat.mod_eq_of_lt (by simpa using hx)]
  show x&&& 15=_
  exact Nat.and_two_pow_sub_one_eq_mod x 4
 show IntKind.u64.wrap (((BitVec.ofInt 64 (x:Int)&&& BitVec.ofInt 64 15).toNat:Nat):Int)=_
 rw[e2]
 unfold IntKind.wrap
 have e4:(2:Int) ^ IntKind.u64.bits=18446744073709551616:=rfl
 simp only[e4]
 rw[if_neg (by simp[IntKind.signed])]
 omega
theorem dig_shift(v n j:Nat)(hv:v<18446744073709551616)(hj:j<n)(hn:n≤16):IntKind.i32.wrap (bitsOf .and .u64 (shiftOf .shr .u64 (v:Int) (4*((n-1-j:Nat):Int))) 15)=((digN v n j:Nat):Int):=by
 have e1:min (4*((n-1-j:Nat):Int)).toNat IntKind.u64.bits=4*(n-1-j):=by
  show min (4*((n-1-j:Nat):Int)).toNat 64=4*(n-1-j)
  omega
 have e2:shiftOf .shr .u64 (v:Int) (4*((n-1-j:Nat):Int))=((v / 16 ^ (n-1-j):Nat):Int):=by
  show(v:Int).fdiv (2 ^ (min (4*((n-1-j:Nat):Int)).toNat IntKind.u64.bits))=_
  rw[e1,show(16:Nat) ^ (n-1-j)=2 ^ (4*(n-1-j))by rw[Nat.pow_mul]]
  have:((2:Int) ^ (4*(n-1-j)))=((2 ^ (4*(n-1-j)):Nat):Int):=by simp
  rw[this,Int.natCast_ediv,Int.fdiv_eq_ediv_of_nonneg _ (Int.natCast_nonneg _)]
 have hle:v / 16 ^ (n-1-j)≤v:=Nat.div_le_self _ _
 rw[e2,and15_eq _ (by omega)]
 have hd:=digN_lt v n j
 show IntKind.i32.wrap ((digN v n j:Nat):Int)=_
 unfold IntKind.wrap
 have e4:(2:Int) ^ IntKind.i32.bits=4294967296:=rfl
 have e5:(2:Int) ^ (IntKind.i32.bits-1)=2147483648:=rfl
 simp only[e4,e5]
 split
 ·rename_i h;simp only[IntKind.signed,Bool.true_and,decide_eq_true_eq]at h;omega
 ·omega
theorem i32_small{x:Int}(h0:0≤x)(h1:x≤2147483647):IntKind.i32.wrap x=x:=by
 unfold IntKind.wrap
 have e4:(2:Int) ^ IntKind.i32.bits=4294967296:=rfl
 have e5:(2:Int) ^ (IntKind.i32.bits-1)=2147483648:=rfl
 simp only[e4,e5]
 split
 ·rename_i h;simp only[IntKind.signed,Bool.true_and,decide_eq_true_eq]at h;omega
 ·omega
theorem tp_wrap64(v:Nat)(h:v<18446744073709551616):IntKind.u64.wrap (v:Int)=(v:Int):=by
 have e4:(2:Int) ^ IntKind.u64.bits=18446744073709551616:=rfl
 unfold IntKind.wrap
 simp only[e4]
 rw[if_neg (by simp[IntKind.signed])]
 omega
theorem tp_wrap8(v:Nat)(h:v<256):IntKind.u8.wrap (v:Int)=(v:Int):=by
 have e4:(2:Int) ^ IntKind.u8.bits=256:=rfl
 unfold IntKind.wrap
 simp only[e4]
 rw[if_neg (by simp[IntKind.signed])]
 omega
theorem tp_or64(a b:Nat)(ha:a<18446744073709551616)(hb:b<18446744073709551616):bitsOf .or .u64 (a:Int) (b:Int)=((a|||b:Nat):Int):=by
 have h1:a|||b<2 ^ 64:=Nat.or_lt_two_pow (by simpa using ha) (by simpa using hb)
 have e2:(BitVec.ofInt 64 (a:Int)|||BitVec.ofInt 64 (b:Int)).toNat=a|||b:=by
  rw[BitVec.toNat_or,BitVec.ofInt_natCast,BitVec.ofInt_natCast,BitVec.toNat_ofNat,BitVec.toNat_ofNat,Nat.mod_eq_of_lt (by simpa using ha),Nat.mod_eq_of_lt (by simpa using hb)]
 show IntKind.u64.wrap (((BitVec.ofInt 64 (a:Int)|||BitVec.ofInt 64 (b:Int)).toNat:Nat):Int)=_
 rw[e2]
 exact tp_wrap64 _ (by simpa using h1)
theorem shl_or(v d:Nat)(hv:v<1152921504606846976)(hd:d<16):bitsOf .or .u64 (shiftOf .shl .u64 (v:Int) 4) (d:Int)=((v*16+d:Nat):Int):=by
 have e:shiftOf .shl .u64 (v:Int) 4=((v*16:Nat):Int):=by
  show IntKind.u64.wrap ((v:Int)*2 ^ (min (4:Int).toNat IntKind.u64.bits))=_
  rw[show min (4:Int).toNat IntKind.u64.bits=4 from rfl,show((v:Int)*2 ^ 4)=((v*16:Nat):Int)by simp]
  exact tp_wrap64 _ (by omega)
 have e2:v*16|||d=v*16+d:=by
  have:=Nat.two_pow_add_eq_or_of_lt (i:=4) (b:=d) (by simpa using hd) v
  rw[show(2:Nat) ^ 4=16 from rfl,Nat.mul_comm]at this
  exact this.symm
 rw[e,tp_or64 _ _ (by omega) (by omega),e2]
def unD(c:UInt8):Option Nat:=if 48≤c.toNat∧c.toNat≤57 then some (c.toNat-48)else if 97≤c.toNat∧c.toNat≤102 then some (c.toNat-97+10)else none
def unL:List UInt8→Nat→Option Nat
 | [],v=>some v
 |c::l,v=>match unD c with|some d=>unL l (v*16+d)|none=>none
def unhexS(s:ByteArray):Option Nat:=if 1≤s.size∧s.size≤16 then unL s.data.toList 0 else none
theorem unD_u8(c:UInt8)(h0:48≤c.toNat):IntKind.u64.wrap (IntKind.u8.wrap (arith BinOp.sub (c.toNat:Int) 48))=((c.toNat-48:Nat):Int):=by
 have hc:=c.toNat_lt
 rw[show arith BinOp.sub (c.toNat:Int) 48=((c.toNat-48:Nat):Int)by show(c.toNat:Int)-48=_;omega,tp_wrap8 _ (by omega),tp_wrap64 _ (by omega)]
theorem unD_u8'(c:UInt8)(h0:97≤c.toNat)(h1:c.toNat≤102):IntKind.u64.wrap (IntKind.u8.wrap (arith BinOp.add (IntKind.u8.wrap (arith BinOp.sub (c.toNat:Int) 97)) 10))=((c.toNat-97+10:Nat):Int):=by
 rw[show arith BinOp.sub (c.toNat:Int) 97=((c.toNat-97:Nat):Int)by show(c.toNat:Int)-97=_;omega,tp_wrap8 _ (by omega),show arith BinOp.add ((c.toNat-97:Nat):Int) 10=((c.toNat-97+10:Nat):Int)from rfl,tp_wrap8 _ (by omega),tp_wrap64 _ (by omega)]
def hasP(s p:ByteArray):Bool:=decide ((p.size:Int)≤(s.size:Int))&&((s.extract 0 p.size).toList==p.toList)
def cutP(s p:ByteArray):ByteArray×Bool:=if hasP s p then(s.extract p.size s.size,true)else(s,false)
end Go.Pl
