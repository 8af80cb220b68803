/- Texts merged: FrR Vone. -/
import Derived.Test.YtgbmjoenbocfcaaGreatG4
import Derived.Test.YtgbmjoenbocfcaaGreatY
import Derived.Test.YtgbmjoenbocfcaaGreatG0
set_option linter.unusedVariables false
namespace Go.Proofs.YtgbmjoenbocfcaaGreat
open Go Go.Fx Go.Pl
def bl(b:BA):List UInt8:=b.data.toList
theorem bl_inj{a b:BA}(h:bl a=bl b):a=b:=ByteArray.ext (Array.ext' h)
theorem bl_app(a b:BA):bl (a++b)=bl a++bl b:=by simp[bl]
theorem bl_len(a:BA):(bl a).length=a.size:=by simp[bl]
theorem bl_ext(a:BA)(i j:Nat):bl (a.extract i j)=((bl a).drop i).take (j-i):=by
 simp[bl,List.extract_eq_take_drop]
theorem ext_left(a b:BA){n:Nat}(h:n=a.size):(a++b).extract 0 n=a:=by
 apply bl_inj
 subst h
 rw[bl_ext,bl_app,List.drop_zero,Nat.sub_zero,← bl_len,List.take_left]
theorem ext_right(a b:BA){n m:Nat}(h:n=a.size)(hm:m=a.size+b.size):(a++b).extract n m=b:=by
 apply bl_inj
 subst h hm
 rw[bl_ext,bl_app,← bl_len,List.drop_left,List.take_of_length_le (by rw[bl_len,bl_len];omega)]
theorem ext_mid(a b c:BA){n m:Nat}(h:n=a.size)(hm:m=a.size+b.size):(a++b++c).extract n m=b:=by
 apply bl_inj
 subst h hm
 rw[bl_ext,bl_app,bl_app,List.append_assoc,← bl_len,List.drop_left,← bl_len,Nat.add_sub_cancel_left,List.take_left]
theorem or_u64(a b:Nat)(ha:a<18446744073709551616)(hb:b<18446744073709551616):bitsOf .or .u64 (a:Int) (b:Int)=((a|||b:Nat):Int):=by
 have h1:a|||b<2 ^ 64:=Nat.or_lt_two_pow (by simpa using ha) (by simpa using hb)
 have e:bitsOf .or .u64 (a:Int) (b:Int)=IntKind.u64.wrap (((BitVec.ofInt 64 (a:Int)|||BitVec.ofInt 64 (b:Int)).toNat:Nat):Int):=rfl
 have e2:(BitVec.ofInt 64 (a:Int)|||BitVec.ofInt 64 (b:Int)).toNat=a|||b:=by
  rw[BitVec.toNat_or,BitVec.ofInt_natCast,BitVec.ofInt_natCast,BitVec.toNat_ofNat,BitVec.toNat_ofNat,Nat.mod_eq_of_lt (by simpa using ha),Nat.mod_eq_of_lt (by simpa using hb)]
 rw[e,e2]
 exact wrap_u64 _ (by simpa using h1)
theorem getL_putL(v n:Nat)(hv:v<18446744073709551616)(hn:n≤8):∀ k,k≤n→getL (putL v n) k=((v % 2 ^ (8*k):Nat):Int)
 |0,_=>by simp[getL,Nat.mod_one]
 |k+1,h=>by
  have ih:=getL_putL v n hv hn k (by omega)
  have hg:(putL v n)[k]? =some (byteN v k):=by
   have hk:k<n:=by omega
   simp[putL,hk]
  have hb:(byteN v k).toNat=(v / 2 ^ (8*k)) % 256:=by unfold byteN;simp
  have hp:2 ^ (8*(k+1))=2 ^ (8*k)*256:=by rw[Nat.mul_add,Nat.pow_add]
  have hle:2 ^ (8*(k+1))≤18446744073709551616:=by
   have:(2:Nat) ^ (8*(k+1))≤2 ^ 64:=Nat.pow_le_pow_right (by decide) (by omega)
   simpa using this
  have hpos:0<2 ^ (8*k):=Nat.two_pow_pos _
  show(match(putL v n)[k]? with|some c=>getStep (getL (putL v n) k) c k|none=>getL (putL v n) k)=_
  rw[hg,ih]
  dsimp only
  have ha:v % 2 ^ (8*k)<2 ^ (8*k):=Nat.mod_lt _ hpos
  have hc:(v / 2 ^ (8*k)) % 256<256:=Nat.mod_lt _ (by decide)
  generalize hav:v % 2 ^ (8*k)=a at ha
  generalize hcv:(v / 2 ^ (8*k)) % 256=c at hc hb
  have hres:v % 2 ^ (8*(k+1))=2 ^ (8*k)*c+a:=by
   rw[hp,Nat.mod_mul,hav,hcv];omega
  have hlt:2 ^ (8*k)*c+a<2 ^ (8*(k+1)):=by rw[← hres];exact Nat.mod_lt _ (Nat.two_pow_pos _)
  rw[hres]
  unfold getStep
  have e1:IntKind.u64.wrap ((byteN v k).toNat:Int)=(c:Int):=by rw[hb];exact wrap_u64 _ (by omega)
  have e2:shiftOf .shl .u64 (c:Int) (8*(k:Int))=((2 ^ (8*k)*c:Nat):Int):=by
   have e3:min (8*(k:Int)).toNat IntKind.u64.bits=8*k:=by show min (8*(k:Int)).toNat 64=8*k;omega
   show IntKind.u64.wrap ((c:Int)*2 ^ (min (8*(k:Int)).toNat IntKind.u64.bits))=_
   rw[e3]
   have e4:((c:Int)*2 ^ (8*k))=((2 ^ (8*k)*c:Nat):Int):=by rw[Int.mul_comm];simp
   rw[e4]
   exact wrap_u64 _ (by omega)
  rw[e1,e2,or_u64 _ _ (by omega) (by omega),Nat.or_comm,← Nat.two_pow_add_eq_or_of_lt ha]
theorem put4_get(v:Nat)(h:v<4294967296):getU (put4 v)=(v:Int):=by
 unfold getU
 rw[put4_size]
 have e:=getL_putL v 4 (by omega) (by omega) 4 (Nat.le_refl _)
 rw[show(put4 v).data.toList=putL v 4 from rfl,e,Nat.mod_eq_of_lt (by simpa using h)]
 have e4:(2:Int) ^ IntKind.u32.bits=4294967296:=rfl
 unfold IntKind.wrap
 simp only[e4]
 rw[if_neg (by simp[IntKind.signed])]
 omega
theorem put8_get(n:Int)(h0:0≤n)(h1:n≤18446744073709551615):getL (put8 n).data.toList 8=n:=by
 have e:=getL_putL n.toNat 8 (by omega) (by omega) 8 (Nat.le_refl _)
 rw[show(put8 n).data.toList=putL n.toNat 8 from rfl,e,Nat.mod_eq_of_lt (by omega)]
 omega
theorem frameOf_parts(s t:BA):(frameOf s++t).extract 0 4=put4 s.size∧(frameOf s++t).extract 4 8=put4 (sumN (put4 s.size))∧(frameOf s++t).extract 8 12=put4 (sumN s)∧(frameOf s++t).extract 12 (12+s.size)=s∧(frameOf s++t).extract (12+s.size) (frameOf s++t).size=t:=by
 have z1:=put4_size s.size
 have z2:=put4_size (sumN (put4 s.size))
 have z3:=put4_size (sumN s)
 unfold frameOf
 refine⟨?_,?_,?_,?_,?_⟩
 ·rw[ByteArray.append_assoc,ByteArray.append_assoc,ByteArray.append_assoc]
  exact ext_left _ _ z1.symm
 ·rw[ByteArray.append_assoc,ByteArray.append_assoc]
  exact ext_mid _ _ _ z1.symm (by rw[z1,z2])
 ·rw[ByteArray.append_assoc]
  exact ext_mid _ _ _ (by rw[ByteArray.size_append,z1,z2]) (by rw[ByteArray.size_append,z1,z2,z3])
 ·exact ext_mid _ _ _ (by rw[ByteArray.size_append,ByteArray.size_append,z1,z2,z3]) (by rw[ByteArray.size_append,ByteArray.size_append,z1,z2,z3])
 ·refine ext_right _ _ (by rw[ByteArray.size_append,ByteArray.size_append,ByteArray.size_append,z1,z2,z3]) (by rw[ByteArray.size_append])
theorem nextF_frame(s t:BA)(h:s.size≤4194304):nextF (frameOf s++t)=(s,0):=by
 obtain⟨p1,p2,p3,p4,_⟩:=frameOf_parts s t
 have g1:=put4_get s.size (by omega)
 have g2:=put4_get (sumN (put4 s.size)) (sumN_eq _).2
 have g3:=put4_get (sumN s) (sumN_eq _).2
 have hz:(frameOf s++t).size=12+s.size+t.size:=by rw[ByteArray.size_append,frameOf_size]
 have hn:(12+(s.size:Int)).toNat=12+s.size:=by omega
 unfold nextF
 rw[p1,p2,p3,g1,g2,g3,hn,p4,if_neg (by omega),(sumN_eq (put4 s.size)).1,if_neg (by simp;omega),if_neg (by omega),(sumN_eq s).1,if_neg (by simp)]
theorem scanF_fuel:∀ (k:Nat) (b:BA),b.size≤k→scanF k b=scanOf b:=by
 intro k
 have key:∀ (k j:Nat) (b:BA),b.size≤k→b.size≤j→scanF k b=scanF j b:=by
  intro k
  induction k with
  |zero=>
   intro j b h1 h2
   have h0:b.size=0:=by omega
   cases j with
   |zero=>rfl
   |succ j=>simp only[scanF,h0,if_true]
  |succ k ih=>
   intro j b h1 h2
   cases j with
   |zero=>
    have h0:b.size=0:=by omega
    simp only[scanF,h0,if_true]
   |succ j=>
    unfold scanF
    by_cases h0:b.size=0
    ·simp only[h0,if_true]
    ·simp only[h0,if_false]
     by_cases he:(nextF b).2=0
     ·have hs:=nextF_size he
      have e:=ih j (b.extract (12+(nextF b).1.size) b.size) (by rw[ByteArray.size_extract];omega) (by rw[ByteArray.size_extract];omega)
      simp only[he,ne_eq,not_true_eq_false,if_false,e]
     ·simp only[he,ne_eq,not_false_eq_true,if_true]
 exact fun b h=>key k b.size b h (Nat.le_refl _)
theorem scanOf_nil:scanOf ⟨#[]⟩=([],0,0):=rfl
theorem scanOf_frame(s t:BA)(h:s.size≤4194304):scanOf (frameOf s++t)=(s::(scanOf t).1,12+s.size+(scanOf t).2.1,(scanOf t).2.2):=by
 have hz:(frameOf s++t).size=12+s.size+t.size:=by rw[ByteArray.size_append,frameOf_size]
 have e:scanOf (frameOf s++t)=scanF (12+s.size+t.size) (frameOf s++t):=by unfold scanOf;rw[hz]
 rw[e,show 12+s.size+t.size=(11+s.size+t.size)+1 by omega]
 unfold scanF
 rw[if_neg (by omega),nextF_frame s t h,if_neg (by simp),(frameOf_parts s t).2.2.2.2,scanF_fuel _ _ (by omega)]
theorem scanOf_frames(t:BA):∀ (l:List BA),allOk l=true→scanOf (framesOf l++t)=(l++(scanOf t).1,lenT l+(scanOf t).2.1,(scanOf t).2.2)
 | [],_=>by
  rw[show framesOf []++t=t from ByteArray.empty_append]
  simp[lenT]
 |s::l,h=>by
  simp only[allOk,List.all_cons,Bool.and_eq_true,decide_eq_true_eq]at h
  rw[show framesOf (s::l)++t=frameOf s++(framesOf l++t)from ByteArray.append_assoc,scanOf_frame s _ h.1,scanOf_frames t l h.2]
  simp only[List.cons_append,lenT,List.map_cons,List.sum_cons]
  congr 2
  omega
theorem ba_nil(b:BA):b++⟨#[]⟩=b:=ByteArray.append_empty
theorem scanOf_one(s:BA)(h:s.size≤4194304):scanOf (frameOf s)=([s],12+s.size,0):=by
 have:=scanOf_frame s ⟨#[]⟩ h
 rw[ba_nil,scanOf_nil]at this
 simpa using this
theorem nxM_put8(n:Int)(t:BA)(f:Bool)(h0:0≤n)(h1:n≤18446744073709551615):nxM (put8 n++t,f)=(n,(t,f)):=by
 have z:=put8_size n
 have hz:(put8 n++t).size=8+t.size:=by rw[ByteArray.size_append,z]
 unfold nxM
 dsimp only
 rw[if_neg (by omega),ext_left _ _ z.symm,ext_right _ _ z.symm (by rw[hz,z]),put8_get n h0 h1]
theorem runsM_put8s:∀ (l:List Int) (k:Nat),l.length<k→(∀ n∈l,0≤n∧n≤18446744073709551615)→runsM k (put8s l,false)=(l,false)
 | [],k,hk,_=>by
  obtain⟨k,rfl⟩:∃ j,k=j+1:=⟨k-1,by simp at hk;omega⟩
  unfold runsM
  rw[if_neg (by rintro⟨h,_⟩;exact h rfl)]
 |n::l,k,hk,h=>by
  obtain⟨k,rfl⟩:∃ j,k=j+1:=⟨k-1,by simp at hk;omega⟩
  have hn:=h n (List.mem_cons_self ..)
  have hs:(put8s (n::l)).size≠0:=by rw[put8s_size];simp
  have e:nxM (put8s (n::l),false)=(n,(put8s l,false)):=nxM_put8 n (put8s l) false hn.1 hn.2
  unfold runsM
  rw[if_pos ⟨hs,rfl⟩,e,runsM_put8s l k (by simp at hk;omega) (fun x hx=>h x (List.mem_cons_of_mem _ hx))]
theorem parseM_eq{s r1 r2 r3:BA}{a b c:Int}{l:List Int}(e1:nxM (s,false)=(a,(r1,false)))(e2:nxM (r1,false)=(b,(r2,false)))(e3:nxM (r2,false)=(c,(r3,false)))(e4:runsM (s.size+1) (r3,false)=(l,false)):parseM s=(⟨a,l,b⟩,c,false):=by
 unfold parseM
 rw[e1]
 dsimp only
 rw[e2]
 dsimp only
 rw[e3]
 dsimp only
 rw[e4]
theorem parseM_body{m:Mn}(hw:m.wf)(hl:m.runs.length≤256):parseM (mBody m)=(m,((m.runs.length:Nat):Int),false):=by
 have eb:mBody m=put8 m.wal++put8s (m.next::(m.runs.length:Int)::m.runs):=by simp only[mBody,mNums,put8s]
 have eb2:put8s (m.next::(m.runs.length:Int)::m.runs)=put8 m.next++put8s ((m.runs.length:Int)::m.runs):=by simp only[put8s]
 have eb3:put8s ((m.runs.length:Int)::m.runs)=put8 (m.runs.length:Int)++put8s m.runs:=by simp only[put8s]
 have hz:(mBody m).size=24+8*m.runs.length:=by
  unfold mBody;rw[put8s_size];simp[mNums];omega
 refine(parseM_eq (s:=mBody m) (a:=m.wal) (r1:=put8s (m.next::(m.runs.length:Int)::m.runs)) (b:=m.next) (r2:=put8s ((m.runs.length:Int)::m.runs)) (c:=(m.runs.length:Int)) (r3:=put8s m.runs) (l:=m.runs) ?_ ?_ ?_ ?_)
 ·rw[eb];exact nxM_put8 _ _ _ hw.1.1 hw.1.2
 ·rw[eb2];exact nxM_put8 _ _ _ hw.2.1.1 hw.2.1.2
 ·rw[eb3];exact nxM_put8 _ _ _ (by omega) (by omega)
 ·exact runsM_put8s m.runs _ (by omega) hw.2.2
theorem getM1_one(t:BA):getM1 [t]=(if takeM t then((parseM t).1,0)else(mn0,7)):=rfl
theorem getM_put{m:Mn}(hc:m.chk=true)(hw:m.wf):getM (mBytes m)=(m,0):=by
 have hh:=Mn.chk_head hc
 simp only[Mn.head,Bool.or_eq_false_iff,decide_eq_false_iff_not]at hh
 have hl:m.runs.length≤256:=by omega
 have hz:(mBody m).size=24+8*m.runs.length:=by
  unfold mBody;rw[put8s_size];simp[mNums];omega
 have hp:=parseM_body hw hl
 have hs:=scanOf_one (mBody m) (by omega)
 have hb:mBytes m=frameOf (mBody m):=rfl
 rw[hb]
 generalize mBody m=t at hp hs
 have ht:takeM t=true:=by unfold takeM;rw[hp];simp[hc]
 unfold getM
 rw[hs]
 dsimp only
 rw[if_neg (by simp),getM1_one,ht,if_pos rfl,hp]
end Go.Proofs.YtgbmjoenbocfcaaGreat
namespace Go.Proofs.YtgbmjoenbocfcaaGreat
open Go Go.Fx Go.Proofs Go.Pl
abbrev V1s:={v:Value // v.oneCell'=true}
end Go.Proofs.YtgbmjoenbocfcaaGreat
