/- Texts merged: G20 H40. -/
import Derived.Test.YtmnafjonbeihiaaGreatDoorK5
import Derived.Test.YtmnafjonbeihiaaGreatDoorG17
import Derived.Test.YtmnafjonbeihiaaGreatDoorG23
import Derived.Test.YtmnafjonbeihiaaGreatDoorK0
/- Texts merged: MnB MnR. -/
set_option linter.unusedSimpArgs false
set_option linter.unusedVariables false
set_option maxRecDepth 100000
namespace Go.Proofs.YtmnafjonbeihiaaGreatDoor
open Go Go.Fx Go.Proofs Go.Pl
def put8(n:Int):BA:=⟨(putL n.toNat 8).toArray⟩
def put8s:List Int→BA
 | []=>⟨#[]⟩
 |n::l=>put8 n++put8s l
def mNums(m:Mn):List Int:=m.wal::m.next::(m.runs.length:Int)::m.runs
def mBody(m:Mn):BA:=put8s (mNums m)
def mBytes(m:Mn):BA:=frameOf (mBody m)
end Go.Proofs.YtmnafjonbeihiaaGreatDoor
set_option maxRecDepth 20000
namespace Go.Proofs.YtmnafjonbeihiaaGreatDoor
open Go Go.Fx Go.Pl
def mA:Mn:=⟨1,[],2⟩
def mB:Mn:=⟨2,[],3⟩
def nM:BA:=⟨#[109]⟩
def nX:BA:=⟨#[120]⟩
def M0:Dk:=newD 1000
def M1:Dk:=(saveD nM (mBytes mA) M0).1
def M2:Dk:=M1.fuseTo 2
def M3:Dk:=(saveD nM (mBytes mB) M2).1
def M4:Dk:=M3.crash 0 0
end Go.Proofs.YtmnafjonbeihiaaGreatDoor
/- Texts merged: FrR MnS. -/
namespace Go.Proofs.YtmnafjonbeihiaaGreatDoor
open Go Go.Fx Go.Pl
def bl(b:BA):List UInt8:=b.data.toList
theorem bl_inj{a b:BA}(h:bl a=bl b):a=b:=ByteArray.ext (Array.ext' h)
theorem bl_app(a b:BA):bl (a++b)=bl a++bl b:=by simp[bl]
theorem bl_len(a:BA):(bl a).length=a.size:=by simp[bl]
theorem bl_ext(a:BA)(i j:Nat):bl (a.extract i j)=((bl a).drop i).take (j-i):=by
 simp[bl,List.extract_eq_take_drop]
theorem ext_left(a b:BA){n:Nat}(h:n=a.size):(a++b).extract 0 n=a:=by
 apply bl_inj
 subst h
 rw[bl_ext,bl_app,List.drop_zero,Nat.sub_zero,← bl_len,List.take_left]
theorem ext_right(a b:BA){n m:Nat}(h:n=a.size)(hm:m=a.size+b.size):(a++b).extract n m=b:=by
 apply bl_inj
 subst h hm
 rw[bl_ext,bl_app,← bl_len,List.drop_left,List.take_of_length_le (by rw[bl_len,bl_len];omega)]
theorem ext_mid(a b c:BA){n m:Nat}(h:n=a.size)(hm:m=a.size+b.size):(a++b++c).extract n m=b:=by
 apply bl_inj
 subst h hm
 rw[bl_ext,bl_app,bl_app,List.append_assoc,← bl_len,List.drop_left,← bl_len,Nat.add_sub_cancel_left,List.take_left]
theorem or_u64(a b:Nat)(ha:a<18446744073709551616)(hb:b<18446744073709551616):bitsOf .or .u64 (a:Int) (b:Int)=((a|||b:Nat):Int):=by
 have h1:a|||b<2 ^ 64:=Nat.or_lt_two_pow (by simpa using ha) (by simpa using hb)
 have e:bitsOf .or .u64 (a:Int) (b:Int)=IntKind.u64.wrap (((BitVec.ofInt 64 (a:Int)|||BitVec.ofInt 64 (b:Int)).toNat:Nat):Int):=rfl
 have e2:(BitVec.ofInt 64 (a:Int)|||BitVec.ofInt 64 (b:Int)).toNat=a|||b:=by
  rw[BitVec.toNat_or,BitVec.ofInt_natCast,BitVec.ofInt_natCast,BitVec.toNat_ofNat,BitVec.toNat_ofNat,Nat.mod_eq_of_lt (by simpa using ha),Nat.mod_eq_of_lt (by simpa using hb)]
 rw[e,e2]
 exact wrap_u64 _ (by simpa using h1)
theorem getL_putL(v n:Nat)(hv:v<18446744073709551616)(hn:n≤8):∀ k,k≤n→getL (putL v n) k=((v % 2 ^ (8*k):Nat):Int)
 |0,_=>by simp[getL,Nat.mod_one]
 |k+1,h=>by
  have ih:=getL_putL v n hv hn k (by omega)
  have hg:(putL v n)[k]? =some (byteN v k):=by
   have hk:k<n:=by omega
   simp[putL,hk]
  have hb:(byteN v k).toNat=(v / 2 ^ (8*k)) % 256:=by unfold byteN;simp
  have hp:2 ^ (8*(k+1))=2 ^ (8*k)*256:=by rw[Nat.mul_add,Nat.pow_add]
  have hle:2 ^ (8*(k+1))≤18446744073709551616:=by
   have:(2:Nat) ^ (8*(k+1))≤2 ^ 64:=Nat.pow_le_pow_right (by decide) (by omega)
   simpa using this
  have hpos:0<2 ^ (8*k):=Nat.two_pow_pos _
  show(match(putL v n)[k]? with|some c=>getStep (getL (putL v n) k) c k|none=>getL (putL v n) k)=_
  rw[hg,ih]
  dsimp only
  have ha:v % 2 ^ (8*k)<2 ^ (8*k):=Nat.mod_lt _ hpos
  have hc:(v / 2 ^ (8*k)) % 256<256:=Nat.mod_lt _ (by decide)
  generalize hav:v % 2 ^ (8*k)=a at ha
  generalize hcv:(v / 2 ^ (8*k)) % 256=c at hc hb
  have hres:v % 2 ^ (8*(k+1))=2 ^ (8*k)*c+a:=by
   rw[hp,Nat.mod_mul,hav,hcv];omega
  have hlt:2 ^ (8*k)*c+a<2 ^ (8*(k+1)):=by rw[← hres];exact Nat.mod_lt _ (Nat.two_pow_pos _)
  rw[hres]
  unfold getStep
  have e1:IntKind.u64.wrap ((byteN v k).toNat:Int)=(c:Int):=by rw[hb];exact wrap_u64 _ (by omega)
  have e2:shiftOf .shl .u64 (c:Int) (8*(k:Int))=((2 ^ (8*k)*c:Nat):Int):=by
   have e3:min (8*(k:Int)).toNat IntKind.u64.bits=8*k:=by show min (8*(k:Int)).toNat 64=8*k;omega
   show IntKind.u64.wrap ((c:Int)*2 ^ (min (8*(k:Int)).toNat IntKind.u64.bits))=_
   rw[e3]
   have e4:((c:Int)*2 ^ (8*k))=((2 ^ (8*k)*c:Nat):Int):=by rw[Int.mul_comm];simp
   rw[e4]
   exact wrap_u64 _ (by omega)
  rw[e1,e2,or_u64 _ _ (by omega) (by omega),Nat.or_comm,← Nat.two_pow_add_eq_or_of_lt ha]
theorem put4_get(v:Nat)(h:v<4294967296):getU (put4 v)=(v:Int):=by
 unfold getU
 rw[put4_size]
 have e:=getL_putL v 4 (by omega) (by omega) 4 (Nat.le_refl _)
 rw[show(put4 v).data.toList=putL v 4 from rfl,e,Nat.mod_eq_of_lt (by simpa using h)]
 have e4:(2:Int) ^ IntKind.u32.bits=4294967296:=rfl
 unfold IntKind.wrap
 simp only[e4]
 rw[if_neg (by simp[IntKind.signed])]
 omega
theorem frameOf_parts(s t:BA):(frameOf s++t).extract 0 4=put4 s.size∧(frameOf s++t).extract 4 8=put4 (sumN (put4 s.size))∧(frameOf s++t).extract 8 12=put4 (sumN s)∧(frameOf s++t).extract 12 (12+s.size)=s∧(frameOf s++t).extract (12+s.size) (frameOf s++t).size=t:=by
 have z1:=put4_size s.size
 have z2:=put4_size (sumN (put4 s.size))
 have z3:=put4_size (sumN s)
 unfold frameOf
 refine⟨?_,?_,?_,?_,?_⟩
 ·rw[ByteArray.append_assoc,ByteArray.append_assoc,ByteArray.append_assoc]
  exact ext_left _ _ z1.symm
 ·rw[ByteArray.append_assoc,ByteArray.append_assoc]
  exact ext_mid _ _ _ z1.symm (by rw[z1,z2])
 ·rw[ByteArray.append_assoc]
  exact ext_mid _ _ _ (by rw[ByteArray.size_append,z1,z2]) (by rw[ByteArray.size_append,z1,z2,z3])
 ·exact ext_mid _ _ _ (by rw[ByteArray.size_append,ByteArray.size_append,z1,z2,z3]) (by rw[ByteArray.size_append,ByteArray.size_append,z1,z2,z3])
 ·refine ext_right _ _ (by rw[ByteArray.size_append,ByteArray.size_append,ByteArray.size_append,z1,z2,z3]) (by rw[ByteArray.size_append])
theorem nextF_frame(s t:BA)(h:s.size≤4194304):nextF (frameOf s++t)=(s,0):=by
 obtain⟨p1,p2,p3,p4,_⟩:=frameOf_parts s t
 have g1:=put4_get s.size (by omega)
 have g2:=put4_get (sumN (put4 s.size)) (sumN_eq _).2
 have g3:=put4_get (sumN s) (sumN_eq _).2
 have hz:(frameOf s++t).size=12+s.size+t.size:=by rw[ByteArray.size_append,frameOf_size]
 have hn:(12+(s.size:Int)).toNat=12+s.size:=by omega
 unfold nextF
 rw[p1,p2,p3,g1,g2,g3,hn,p4,if_neg (by omega),(sumN_eq (put4 s.size)).1,if_neg (by simp;omega),if_neg (by omega),(sumN_eq s).1,if_neg (by simp)]
theorem scanF_fuel:∀ (k:Nat) (b:BA),b.size≤k→scanF k b=scanOf b:=by
 intro k
 have key:∀ (k j:Nat) (b:BA),b.size≤k→b.size≤j→scanF k b=scanF j b:=by
  intro k
  induction k with
  |zero=>
   intro j b h1 h2
   have h0:b.size=0:=by omega
   cases j with
   |zero=>rfl
   |succ j=>simp only[scanF,h0,if_true]
  |succ k ih=>
   intro j b h1 h2
   cases j with
   |zero=>
    have h0:b.size=0:=by omega
    simp only[scanF,h0,if_true]
   |succ j=>
    unfold scanF
    by_cases h0:b.size=0
    ·simp only[h0,if_true]
    ·simp only[h0,if_false]
     by_cases he:(nextF b).2=0
     ·have hs:=nextF_size he
      have e:=ih j (b.extract (12+(nextF b).1.size) b.size) (by rw[ByteArray.size_extract];omega) (by rw[ByteArray.size_extract];omega)
      simp only[he,ne_eq,not_true_eq_false,if_false,e]
     ·simp only[he,ne_eq,not_false_eq_true,if_true]
 exact fun b h=>key k b.size b h (Nat.le_refl _)
theorem scanOf_nil:scanOf ⟨#[]⟩=([],0,0):=rfl
theorem scanOf_frame(s t:BA)(h:s.size≤4194304):scanOf (frameOf s++t)=(s::(scanOf t).1,12+s.size+(scanOf t).2.1,(scanOf t).2.2):=by
 have hz:(frameOf s++t).size=12+s.size+t.size:=by rw[ByteArray.size_append,frameOf_size]
 have e:scanOf (frameOf s++t)=scanF (12+s.size+t.size) (frameOf s++t):=by unfold scanOf;rw[hz]
 rw[e,show 12+s.size+t.size=(11+s.size+t.size)+1 by omega]
 unfold scanF
 rw[if_neg (by omega),nextF_frame s t h,if_neg (by simp),(frameOf_parts s t).2.2.2.2,scanF_fuel _ _ (by omega)]
theorem scanOf_frames(t:BA):∀ (l:List BA),allOk l=true→scanOf (framesOf l++t)=(l++(scanOf t).1,lenT l+(scanOf t).2.1,(scanOf t).2.2)
 | [],_=>by
  rw[show framesOf []++t=t from ByteArray.empty_append]
  simp[lenT]
 |s::l,h=>by
  simp only[allOk,List.all_cons,Bool.and_eq_true,decide_eq_true_eq]at h
  rw[show framesOf (s::l)++t=frameOf s++(framesOf l++t)from ByteArray.append_assoc,scanOf_frame s _ h.1,scanOf_frames t l h.2]
  simp only[List.cons_append,lenT,List.map_cons,List.sum_cons]
  congr 2
  omega
theorem ba_nil(b:BA):b++⟨#[]⟩=b:=ByteArray.append_empty
end Go.Proofs.YtmnafjonbeihiaaGreatDoor
namespace Go.Proofs.YtmnafjonbeihiaaGreatDoor
open Go Go.Fx Go.Pl
def nMn:BA:=nM++dotNew
structure KInv(C:Option BA→Prop)(d:Dk):Prop where
 pre:∀ k,C (fget nM (play d.sure (d.loose.take k)))
 app:∀ c∈d.loose,∀ n s,c= .app n s→n≠nM
variable{C C':Option BA→Prop}{d:Dk}
theorem KInv.mono(h:KInv C d)(k:∀ o,C o→C' o):KInv C' d:=⟨fun i=>k _ (h.pre i),h.app⟩
theorem KInv.files(h:KInv C d)(hd:d.Ok):C (fget nM d.files):=by
 have:=h.pre d.loose.length
 rw[List.take_length,hd.play]at this
 exact this
theorem KInv.same(h:KInv C d){d':Dk}(e1:d'.sure=d.sure)(e2:d'.loose=d.loose):KInv C d':=⟨by rw[e1,e2];exact h.pre,by rw[e2];exact h.app⟩
theorem KInv.fuse(h:KInv C d)(n:Int):KInv C (d.fuseTo n):=h.same rfl rfl
theorem KInv.settled{l:FS}(h:C (fget nM l)){d:Dk}(e1:d.sure=l)(e2:d.loose=[]):KInv C d:=by
 refine⟨fun k=>?_,?_⟩
 ·rw[e2,e1];simpa [play]using h
 ·rw[e2];simp
theorem KInv.crash(h:KInv C d)(keep torn:Int):KInv C (d.crash keep torn):=by
 refine KInv.settled (l:=d.torn (d.kept keep) torn) ?_ rfl rfl
 unfold Dk.torn
 generalize d.kept keep=k
 have hk:=h.pre k
 cases hc:d.loose[k]? with
 |none=>exact hk
 |some c=>
  have hm:c∈d.loose:=List.mem_of_getElem? hc
  cases c with
  |app n s=>
   have hn:=h.app _ hm n s rfl
   by_cases ht:0<torn
   ·have e:(some (Cl.app n s)).bind (·.piece torn)=some (.app n (s.extract 0 (if(s.size:Int)<torn then(s.size:Int)else torn).toNat)):=by simp[Cl.piece,ht]
    rw[e]
    show C (fget nM (fput n _ _))
    rw[fget_put,if_neg (Ne.symm hn)]
    exact hk
   ·have e:(some (Cl.app n s)).bind (·.piece torn)=none:=by simp[Cl.piece,ht]
    rw[e];exact hk
  |trunc n s=>exact hk
  |ren n s=>exact hk
  |rem n=>exact hk
theorem KInv.doC(h:KInv C d)(hd:d.Ok)(c:Cl)(hC:C (fget nM (c.run d.files)))(ha:∀ n s,c= .app n s→n≠nM):KInv C (d.doC c).1:=by
 unfold Dk.doC
 split
 ·exact h.same rfl rfl
 ·refine⟨fun k=>?_,?_⟩
  ·show C (fget nM (play d.sure ((d.loose++[c]).take k)))
   rcases Nat.lt_or_ge d.loose.length k with hk|hk
   ·rw[List.take_of_length_le (by simp;omega),play_snoc,hd.play];exact hC
   ·rw[List.take_append_of_le_length hk];exact h.pre k
  ·intro x hx n s e
   rcases List.mem_append.1 hx with hx|hx
   ·exact h.app x hx n s e
   ·rw[List.mem_singleton]at hx
    subst hx;exact ha n s e
theorem live1(d:Dk){n:BA}(h:mayN n=true):d.live [n]=if d.still then 20 else 0:=by
 unfold Dk.live
 simp[h]
theorem live0(d:Dk):d.live []=if d.still then 20 else 0:=by
 unfold Dk.live
 simp
theorem cut_all(t:BA)(n:Int)(h:(t.size:Int)≤n):cut t 0 n=t:=by
 apply bl_inj
 unfold cut
 dsimp only
 have e0:(if(t.size:Int)<0 then(t.size:Int)else 0).toNat=0:=by split<;>omega
 have e1:(if((t.extract 0 t.size).size:Int)<n then((t.extract 0 t.size).size:Int)else n).toNat=t.size∨t.size≤(if((t.extract 0 t.size).size:Int)<n then((t.extract 0 t.size).size:Int)else n).toNat:=by
  rw[ByteArray.size_extract,Nat.min_self,Nat.sub_zero]
  split
  ·left;omega
  ·right;omega
 rw[e0,bl_ext,bl_ext,List.drop_zero,List.drop_zero,Nat.sub_zero,Nat.sub_zero]
 rw[List.take_of_length_le (i:=t.size) (by rw[bl_len];omega)]
 exact List.take_of_length_le (by rw[bl_len];rcases e1 with e1|e1<;>omega)
theorem read_eq(d:Dk){nm:BA}(hm:mayN nm=true)(n:Int)(hn:0≤n):d.read nm 0 n=if d.still then(⟨#[]⟩,20)else if !d.has nm then(⟨#[]⟩,3)else(cut (ftext nm d.files) 0 n,0):=by
 unfold Dk.read
 rw[live1 d hm]
 cases hst:d.still with
 |true=>simp
 |false=>
  simp only[Bool.false_eq_true,if_false,ne_eq,not_true_eq_false]
  have:¬ ((0:Int)<0∨n<0):=by omega
  simp only[this,if_false]
end Go.Proofs.YtmnafjonbeihiaaGreatDoor
