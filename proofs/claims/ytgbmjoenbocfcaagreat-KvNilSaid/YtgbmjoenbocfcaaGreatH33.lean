/- Texts merged: KvQ KpA. -/
import Derived.Test.YtgbmjoenbocfcaaGreatKvP
import Derived.Test.YtgbmjoenbocfcaaGreatG9
import Derived.Test.YtgbmjoenbocfcaaGreatG10
set_option linter.unusedSimpArgs false
set_option linter.unusedVariables false
namespace Go.Proofs.YtgbmjoenbocfcaaGreat
open Go Go.Fx Go.Pl
def nbK(v n:Nat):BA:=⟨(putL v n).toArray⟩
theorem nbK_size(v n:Nat):(nbK v n).size=n:=by show(putL v n).toArray.size=n;simp[putL]
theorem nbK_get{v n:Nat}(h8:n≤8)(hv:v<2 ^ (8*n)):getL (nbK v n).data.toList n=(v:Int):=by
 have h64:v<18446744073709551616:=Nat.lt_of_lt_of_le hv (by have:(2:Nat) ^ (8*n)≤2 ^ 64:=Nat.pow_le_pow_right (by decide) (by omega);simpa using this)
 have e:=getL_putL v n h64 h8 n (Nat.le_refl _)
 rw[show(nbK v n).data.toList=putL v n from rfl,e,Nat.mod_eq_of_lt hv]
theorem shr_zero{v k m:Nat}(hm:(2:Int) ^ (min (k:Int).toNat 64)=(m:Int))(h:v<m):shiftOf .shr .u64 (v:Int) (k:Int)=0:=by
 show Int.fdiv (v:Int) (2 ^ (min (k:Int).toNat 64))=0
 rw[hm,Int.fdiv_eq_ediv_of_nonneg _ (by omega)]
 exact Int.ediv_eq_zero_of_lt (by omega) (by omega)
theorem fitsK{v n:Nat}(h:(n=1∧v<256)∨(n=2∧v<65536)∨(n=3∧v<16777216)):fitsB v n 8=true:=by
 rcases h with⟨rfl,h⟩|⟨rfl,h⟩|⟨rfl,h⟩
 ·have e:=shr_zero (v:=v) (k:=8) (m:=256) (by decide) h
  unfold fitsB;simpa using e
 ·have e:=shr_zero (v:=v) (k:=16) (m:=65536) (by decide) h
  unfold fitsB;simpa using e
 ·have e:=shr_zero (v:=v) (k:=24) (m:=16777216) (by decide) h
  unfold fitsB;simpa using e
def goneK(p:Pr):Nat:=if p.g then 1 else 0
def recK(p:Pr):BA:=nbK (goneK p) 1++nbK p.k.size 2++nbK p.v.size 3++(p.k++p.v)
def recsK:List Pr→BA
 | []=>⟨#[]⟩
 |p::l=>recK p++recsK l
def batchK(l:List Pr):BA:=nbK l.length 2++recsK l
theorem recK_size(p:Pr):(recK p).size=6+p.k.size+p.v.size:=by
 unfold recK;simp only[ByteArray.size_append,nbK_size];omega
theorem recsK_snoc:∀ (l:List Pr) (p:Pr),recsK (l++[p])=recsK l++recK p
 | [],p=>by
  show recK p++(⟨#[]⟩:BA)=(⟨#[]⟩:BA)++recK p
  apply ByteArray.ext;simp[ByteArray.data_append]
 |q::l,p=>by
  show recK q++recsK (l++[p])=recK q++recsK l++recK p
  rw[recsK_snoc l p,ByteArray.append_assoc]
theorem recsK_size_le:∀ {l:List Pr},(∀ p∈l,okP p=true)→(recsK l).size≤l.length*262662
 | [],_=>Nat.zero_le _
 |p::l,h=>by
  have h1:=okP_k (h p (List.mem_cons_self ..))
  have h2:=recsK_size_le (l:=l) (fun q hq=>h q (List.mem_cons_of_mem _ hq))
  show(recK p++recsK l).size≤_
  rw[ByteArray.size_append,recK_size,List.length_cons]
  omega
theorem recsK_drop{l:List Pr}{i:Nat}{p:Pr}(h:l[i]? =some p):recsK (l.drop i)=recK p++recsK (l.drop (i+1)):=by
 have hi:=(List.getElem?_eq_some_iff.1 h).1
 rw[List.drop_eq_getElem_cons hi]
 have:=(List.getElem?_eq_some_iff.1 h).2
 rw[this];rfl
def mn1K:Mn:=⟨1,[],2⟩
theorem mn1K_chk:mn1K.chk=true:=by decide
theorem mn1K_wf:mn1K.wf:=⟨by decide,by decide,fun n hn=>by cases hn⟩
def loadK(nm:BA)(d:Dk):Mn×Dk×Int:=if(loadD (manK nm) d).2=3 then(mn1K,saveD (manK nm) (mBytes mn1K) d)else((loadD (manK nm) d).1,d,(loadD (manK nm) d).2)
theorem manK_size(nm:BA):(manK nm).size=nm.size+4:=by unfold manK;rw[ByteArray.size_append];rfl
theorem fileK_size(nm kd:BA)(n:Nat):(fileK nm kd n).size=nm.size+kd.size+14:=by
 unfold fileK
 simp only[ByteArray.size_append,hexS_size]
 show nm.size+1+kd.size+1+12=_
 omega
def sweepL(nm:BA)(m:Mn):List BA→Dk→Bool→Dk×Int×Bool
 | [],d,s=>(d,0,s)
 |f::l,d,s=>if strayB nm m f then(if(d.remove f).2≠0 then((d.remove f).1,(d.remove f).2,s)else sweepL nm m l (d.remove f).1 true)else sweepL nm m l d s
def hx8(d:Nat):UInt8:=UInt8.ofNat (hexC d).toNat
theorem unD_hx8:∀ d<16,unD (hx8 d)=some d:=by decide
theorem mayC_hx8:∀ d<16,mayC (hx8 d)=true:=by decide
def hexL(v n:Nat):List UInt8:=(hexR v n n).map fun c=>UInt8.ofNat c.toNat
theorem hexS_list(v n:Nat):(hexS v n).data.toList=hexL v n:=by unfold hexS hexL;simp
theorem hexL_succ(v n:Nat):hexL v (n+1)=hx8 (v / 16 ^ n % 16)::hexL v n:=by
 unfold hexL hexR
 rw[List.range_succ_eq_map,List.map_cons,List.map_cons,List.map_map]
 congr 1
 rw[List.map_map]
 rw[List.map_map]
 apply List.map_congr_left
 intro i hi
 show UInt8.ofNat (hexC (digN v (n+1) (i+1))).toNat=UInt8.ofNat (hexC (digN v n i)).toNat
 unfold digN
 have:n+1-1-(i+1)=n-1-i:=by omega
 rw[this]
theorem unL_hexL:∀ (n v acc:Nat),unL (hexL v n) acc=some (acc*16 ^ n+v % 16 ^ n)
 |0,v,acc=>by simp[hexL,hexR,unL,Nat.mod_one]
 |n+1,v,acc=>by
  rw[hexL_succ,unL,unD_hx8 _ (Nat.mod_lt _ (by decide))]
  dsimp only
  rw[unL_hexL n v,Nat.mod_pow_succ,Nat.pow_succ,Nat.add_mul,Nat.mul_assoc,Nat.mul_comm 16,Nat.mul_comm (v / 16 ^ n % 16)]
  congr 1
  omega
theorem p12:(16:Nat) ^ 12=281474976710656:=by decide
theorem unhexS_hexS(v:Nat)(h:v<281474976710656):unhexS (hexS v 12)=some v:=by
 unfold unhexS
 rw[hexS_size,if_pos ⟨by decide,by decide⟩,hexS_list,unL_hexL,p12,Nat.mod_eq_of_lt h]
 simp
theorem bl_inj2{a b:BA}(h:a.data.toList=b.data.toList):a=b:=by
 cases a;cases b
 simp only[ByteArray.mk.injEq]
 exact Array.ext' h
theorem fileK_list(nm kd:BA)(n:Nat):(fileK nm kd n).data.toList=nm.data.toList++46::(kd.data.toList++46::hexL n 12):=by
 unfold fileK
 simp only[ByteArray.data_append,Array.toList_append,hexS_list,List.append_assoc]
 rfl
theorem hexL_inj{a b:Nat}(ha:a<281474976710656)(hb:b<281474976710656)(h:hexL a 12=hexL b 12):a=b:=by
 have h1:=unL_hexL 12 a 0
 have h2:=unL_hexL 12 b 0
 rw[h,h2]at h1
 have:=Option.some.inj h1
 rw[p12,Nat.mod_eq_of_lt ha,Nat.mod_eq_of_lt hb]at this
 omega
theorem fileK_inj{nm kd kd':BA}{a b:Nat}(hk:kd.size=3)(hk':kd'.size=3)(ha:a<281474976710656)(hb:b<281474976710656)(h:fileK nm kd a=fileK nm kd' b):kd=kd'∧a=b:=by
 have h1:(fileK nm kd a).data.toList=(fileK nm kd' b).data.toList:=by rw[h]
 rw[fileK_list,fileK_list]at h1
 have h2:=(List.cons.inj (List.append_cancel_left h1)).2
 have e1:kd.data.toList.length=3:=hk
 have e2:kd'.data.toList.length=3:=hk'
 obtain⟨h3,h4⟩:=List.append_inj h2 (by rw[e1,e2])
 exact⟨bl_inj2 h3,hexL_inj ha hb (List.cons.inj h4).2⟩
theorem wal_ne_run(nm:BA){a b:Nat}(ha:a<281474976710656)(hb:b<281474976710656):fileK nm walK a≠fileK nm runK b:=fun h=>by
 have:=(fileK_inj rfl rfl ha hb h).1
 exact absurd this (by decide)
theorem run_ne_wal(nm:BA){a b:Nat}(ha:a<281474976710656)(hb:b<281474976710656):fileK nm runK a≠fileK nm walK b:=fun h=>wal_ne_run nm hb ha h.symm
theorem wal_ne(nm:BA){a b:Nat}(ha:a<281474976710656)(hb:b<281474976710656)(h:a≠b):fileK nm walK a≠fileK nm walK b:=fun e=>h (fileK_inj rfl rfl ha hb e).2
theorem run_ne(nm:BA){a b:Nat}(ha:a<281474976710656)(hb:b<281474976710656)(h:a≠b):fileK nm runK a≠fileK nm runK b:=fun e=>h (fileK_inj rfl rfl ha hb e).2
theorem fileW_size(nm:BA)(n:Nat):(fileK nm walK n).size=nm.size+17:=by rw[fileK_size];show nm.size+3+14=_;omega
theorem fileR_size(nm:BA)(n:Nat):(fileK nm runK n).size=nm.size+17:=by rw[fileK_size];show nm.size+3+14=_;omega
def newK(nm:BA):BA:=manK nm++dotNew
theorem newK_size(nm:BA):(newK nm).size=nm.size+8:=by unfold newK;rw[ByteArray.size_append,manK_size];show nm.size+4+4=_;omega
theorem man_ne_wal(nm:BA)(n:Nat):manK nm≠fileK nm walK n:=fun h=>by have:=congrArg ByteArray.size h;rw[manK_size,fileW_size]at this;omega
theorem man_ne_run(nm:BA)(n:Nat):manK nm≠fileK nm runK n:=fun h=>by have:=congrArg ByteArray.size h;rw[manK_size,fileR_size]at this;omega
theorem new_ne_wal(nm:BA)(n:Nat):newK nm≠fileK nm walK n:=fun h=>by have:=congrArg ByteArray.size h;rw[newK_size,fileW_size]at this;omega
theorem new_ne_run(nm:BA)(n:Nat):newK nm≠fileK nm runK n:=fun h=>by have:=congrArg ByteArray.size h;rw[newK_size,fileR_size]at this;omega
theorem new_ne_man(nm:BA):newK nm≠manK nm:=fun h=>by have:=congrArg ByteArray.size h;rw[newK_size,manK_size]at this;omega
theorem hexL_may:∀ (k v:Nat) (c:UInt8),c∈hexL v k→mayC c=true:=by
 intro k v
 induction k with
 |zero=>intro c hc;simp[hexL,hexR]at hc
 |succ k ih=>
  intro c hc
  rw[hexL_succ]at hc
  rcases List.mem_cons.1 hc with rfl|hc
  ·exact mayC_hx8 _ (Nat.mod_lt _ (by decide))
  ·exact ih c hc
structure NmK(nm:BA):Prop where
 may:mayN nm=true
 le:nm.size≤32
theorem NmK.all{nm:BA}(h:NmK nm):nm.data.toList.all mayC=true∧1≤nm.size:=by
 have:=h.may
 unfold mayN at this
 simp only[Bool.and_eq_true,decide_eq_true_eq]at this
 exact⟨this.1.1,this.1.2⟩
theorem NmK.wal{nm:BA}(h:NmK nm)(n:Nat):mayN (fileK nm walK n)=true:=by
 have:=h.le
 unfold mayN
 rw[fileW_size,fileK_list,List.all_append,h.all.1,Bool.true_and,List.all_cons,List.all_append]
 have e1:mayC 46=true:=by decide
 have e2:walK.data.toList.all mayC=true:=by decide
 have e4:(46::hexL n 12).all mayC=true:=by rw[List.all_cons,e1,List.all_eq_true.2 fun c hc=>hexL_may 12 n c hc];rfl
 have e3:(hexL n 12).all mayC=true:=List.all_eq_true.2 fun c hc=>hexL_may 12 n c hc
 rw[e1,e2,e4]
 simp;omega
theorem NmK.run{nm:BA}(h:NmK nm)(n:Nat):mayN (fileK nm runK n)=true:=by
 have:=h.le
 unfold mayN
 rw[fileR_size,fileK_list,List.all_append,h.all.1,Bool.true_and,List.all_cons,List.all_append]
 have e1:mayC 46=true:=by decide
 have e2:runK.data.toList.all mayC=true:=by decide
 have e4:(46::hexL n 12).all mayC=true:=by rw[List.all_cons,e1,List.all_eq_true.2 fun c hc=>hexL_may 12 n c hc];rfl
 have e3:(hexL n 12).all mayC=true:=List.all_eq_true.2 fun c hc=>hexL_may 12 n c hc
 rw[e1,e2,e4]
 simp;omega
theorem NmK.man{nm:BA}(h:NmK nm):mayN (manK nm)=true:=by
 have:=h.le
 have:=h.all.2
 unfold mayN
 rw[manK_size]
 unfold manK
 rw[ByteArray.data_append,Array.toList_append,List.all_append,h.all.1,Bool.true_and]
 have e1:dotMan.data.toList.all mayC=true:=by decide
 rw[e1]
 simp;omega
theorem NmK.new{nm:BA}(h:NmK nm):mayN (newK nm)=true:=by
 have:=h.le
 have h2:=h.all.1
 unfold mayN
 rw[newK_size]
 unfold newK manK
 rw[ByteArray.data_append,Array.toList_append,List.all_append,ByteArray.data_append,Array.toList_append,List.all_append,h2,Bool.true_and]
 have e1:dotMan.data.toList.all mayC=true:=by decide
 have e2:dotNew.data.toList.all mayC=true:=by decide
 rw[e1,e2]
 simp;omega
theorem cutP_of(p r:BA):cutP (p++r) p=(r,true):=by
 unfold cutP hasP
 have e1:(p++r).extract 0 p.size=p:=ext_left _ _ rfl
 have e2:(p++r).extract p.size (p++r).size=r:=ext_right _ _ rfl (by rw[ByteArray.size_append])
 have e3:((p.size:Int)≤((p++r).size:Int)):=by rw[ByteArray.size_append];omega
 rw[e1,decide_eq_true e3]
 simp only[beq_self_eq_true,Bool.and_self,if_true]
 rw[e2]
theorem cutD_wal(h:BA):cutD (walK++dotK++h)=((walK,h),true):=by
 have hi:Lib.indexByte (walK++dotK++h).data.toList 46=3:=by
  have:(walK++dotK++h).data.toList=119::97::108::46::h.data.toList:=by simp[ByteArray.data_append]
  rw[this];simp[Lib.indexByte]
 unfold cutD
 rw[hi,if_pos (by decide)]
 have e1:(walK++dotK++h).extract 0 (3:Int).toNat=walK:=by rw[ByteArray.append_assoc];exact ext_left _ _ rfl
 have e2:(walK++dotK++h).extract ((3:Int).toNat+1) (walK++dotK++h).size=h:=ext_right _ _ rfl (by rw[ByteArray.size_append])
 rw[e1,e2]
theorem cutD_run(h:BA):cutD (runK++dotK++h)=((runK,h),true):=by
 have hi:Lib.indexByte (runK++dotK++h).data.toList 46=3:=by
  have:(runK++dotK++h).data.toList=114::117::110::46::h.data.toList:=by simp[ByteArray.data_append]
  rw[this];simp[Lib.indexByte]
 unfold cutD
 rw[hi,if_pos (by decide)]
 have e1:(runK++dotK++h).extract 0 (3:Int).toNat=runK:=by rw[ByteArray.append_assoc];exact ext_left _ _ rfl
 have e2:(runK++dotK++h).extract ((3:Int).toNat+1) (runK++dotK++h).size=h:=ext_right _ _ rfl (by rw[ByteArray.size_append])
 rw[e1,e2]
theorem sz_neS{a b:BA}(h:a.size≠b.size):(a.toList==b.toList)=false:=by
 cases e:(a.toList==b.toList)with
 |false=>rfl
 |true=>exact absurd (by rw[eqS_iff.1 e]) h
theorem stray_man(nm:BA)(m:Mn):strayB nm m (manK nm)=false:=by
 unfold strayB
 have h1:((manK nm).toList==(manK nm++dotNewK).toList)=false:=sz_neS (by rw[ByteArray.size_append];show(manK nm).size≠(manK nm).size+4;omega)
 have h2:cutP (manK nm) (nm++dotK)=(⟨#[109,97,110]⟩,true):=by
  have:manK nm=(nm++dotK)++⟨#[109,97,110]⟩:=by
   unfold manK;rw[ByteArray.append_assoc];rfl
  rw[this,cutP_of]
 rw[h1,h2,cond_false]
 unfold strayC cutD
 dsimp only
 have h3:Lib.indexByte (⟨#[109,97,110]⟩:BA).data.toList 46= -1:=by decide
 rw[h3]
 rfl
theorem stray_wal(nm:BA)(m:Mn)(n:Nat)(hn:n<281474976710656)(hw:m.wal=(n:Int)):strayB nm m (fileK nm walK n)=false:=by
 unfold strayB
 have h1:((fileK nm walK n).toList==(manK nm++dotNewK).toList)=false:=sz_neS (by rw[ByteArray.size_append,fileW_size,manK_size];show nm.size+17≠nm.size+4+4;omega)
 have h2:cutP (fileK nm walK n) (nm++dotK)=(walK++dotK++hexS n 12,true):=by
  have:fileK nm walK n=(nm++dotK)++(walK++dotK++hexS n 12):=by unfold fileK;simp only[ByteArray.append_assoc]
  rw[this,cutP_of]
 rw[h1,h2,cond_false]
 unfold strayC
 dsimp only
 rw[cutD_wal]
 have h3:unN (hexS n 12)=(n:Int):=by unfold unN;rw[unhexS_hexS n hn];rfl
 have h4:unK (hexS n 12)=0:=by unfold unK;rw[unhexS_hexS n hn];rfl
 dsimp only
 rw[h3,h4,hexS_size,hw]
 simp
theorem stray_run(nm:BA)(m:Mn)(n:Nat)(hn:n<281474976710656)(hw:(n:Int)∈m.runs):strayB nm m (fileK nm runK n)=false:=by
 unfold strayB
 have h1:((fileK nm runK n).toList==(manK nm++dotNewK).toList)=false:=sz_neS (by rw[ByteArray.size_append,fileR_size,manK_size];show nm.size+17≠nm.size+4+4;omega)
 have h2:cutP (fileK nm runK n) (nm++dotK)=(runK++dotK++hexS n 12,true):=by
  have:fileK nm runK n=(nm++dotK)++(runK++dotK++hexS n 12):=by unfold fileK;simp only[ByteArray.append_assoc]
  rw[this,cutP_of]
 rw[h1,h2,cond_false]
 unfold strayC
 dsimp only
 rw[cutD_run]
 have h3:unN (hexS n 12)=(n:Int):=by unfold unN;rw[unhexS_hexS n hn];rfl
 have h4:unK (hexS n 12)=0:=by unfold unK;rw[unhexS_hexS n hn];rfl
 have h5:(runK.toList==walK.toList)=false:=by
  cases e:(runK.toList==walK.toList)with
  |false=>rfl
  |true=>exact absurd (eqS_iff.1 e) (by decide)
 dsimp only
 rw[h3,h4,hexS_size,h5]
 have h6:m.runs.contains (n:Int)=true:=List.contains_iff_mem.2 hw
 rw[h6]
 simp
end Go.Proofs.YtgbmjoenbocfcaaGreat
