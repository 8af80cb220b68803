/- Texts merged: KqA KqB. -/
import Derived.Test.YtgbmjoenbocfcaaGreatG29
set_option linter.unusedSimpArgs false
set_option linter.unusedVariables false
set_option maxRecDepth 100000
namespace Go.Proofs.YtgbmjoenbocfcaaGreat
open Go Go.Fx Go.Proofs Go.Pl
structure Ks where
 op:Int
 l:List Pr
 v:V1s
 key:BA
 to_:BA
 n:Int
 m:Int
 left:Int
 bit:Int
def ksV(x:Ks):List Value:=[.int .i64 x.op,x.v.1,.string x.key,.string x.to_,.int .i64 x.n,.int .i64 x.m,.int .i64 x.left,.int .u8 x.bit]
structure KsOk(A:HProp)(x:Ks):Prop where
 vw:Vw A 3 x.v.1 (x.l.map prV)
 sz:∀ p∈x.l,p.k.size≤140737488355328∧p.v.size≤140737488355328
 kz:x.key.size≤140737488355328
 tz:x.to_.size≤140737488355328
theorem sumP_appK(a b:List Pr):sumP (a++b)=sumP a+sumP b:=by simp[sumP]
def wkL(l:List Pr):Nat:=30*l.length+sumP l
def wkK(x:Ks):Nat:=x.key.size+x.to_.size+wkL x.l
def wkS(xs:List Ks):Nat:=(xs.map wkK).sum
theorem wkS_take{xs:List Ks}{n:Nat}(h:n<xs.length):wkS (xs.take (n+1))=wkS (xs.take n)+(xs[n].key.size+xs[n].to_.size)+wkL xs[n].l:=by
 unfold wkS
 rw[List.take_succ_eq_append_getElem h,List.map_append,List.sum_append]
 simp[wkK];omega
theorem wkL_take{l:List Pr}{n:Nat}(h:n<l.length):wkL (l.take (n+1))=wkL (l.take n)+(30+l[n].k.size+l[n].v.size):=by
 unfold wkL
 rw[List.take_succ_eq_append_getElem h,sumP_appK,List.length_append]
 simp[sumP];omega
set_option maxHeartbeats 4000000 in
theorem HeavyK_spec(u:Value)(A:HProp)(xs:List Ks)(hA:Vw A 8 u (xs.map ksV))(hv:∀ x∈xs,KsOk A x):
  FSpec Tryz.prog 8 [u] [A] Bool (fun y=>y=false→xs.length≤80∧wkS xs≤16384∧∀ x∈xs,x.l.length≤200∧sumP x.l≤32768) (fun y=>.bool y) (fun _=>[A]):=by
 have hlen:(xs.map ksV).length=xs.length:=by simp
 refine spec_intro [] _ Tryz.func8 rfl Tryz.ntmps8 (by rfl) (fun w0 R=>?_)
 refine ok_learn (VwIn.slice (VwIn.here hA)) ?_
 rintro⟨pu,cu,rfl⟩
 repeat'(first|(refine gY ?_;intros)|(refine hY ?_ ?_<;>intro hgd)|(refine jY ?_ ?_<;>intro _)|fail)
 refine ok_loop' (γ:=Nat) (fun g ρ L=>g≤xs.length∧g≤200∧(∀ x∈xs.take g,x.l.length≤200∧sumP x.l≤32768)∧wkS (xs.take g)≤g*300000000000000∧Knows ρ [(0,.slice pu (xs.map ksV).length cu),(3,.int .i64 (wkS (xs.take g))),(4,.int .i64 g)]∧L=[A]++R) (fun g=>xs.length-g) 0 ⟨by simp,by simp,by simp,by simp[wkS],⟨rfl,rfl,rfl,trivial⟩,rfl⟩ ?_
 rintro i ρ L ⟨hi,hi1,hall,hs,hk,rfl⟩
 refine ok_regs hk ?_
 cases t1:decide ((i:Int)<((xs.map ksV).length:Int))with
 |false=>
  have hie:i=xs.length:=by have:=of_decide_eq_false t1;omega
  have hfull:xs.take i=xs:=by rw[hie];exact List.take_length
  rw[hfull]at hall hs ⊢
  cases t5:decide ((80:Int)<((xs.map ksV).length:Int))with
  |true=>
   repeat'(first|(refine gY ?_;intros)|(refine hY ?_ ?_<;>intro hgd)|(refine jY ?_ ?_<;>intro _)|fail)
   (refine rt_Y (y:=true) (hrs:=Tryz.results8) (hv:=?_) (hφ:=?_))
   ·rfl
   ·exact fun h=>by cases h
  |false=>
   repeat'(first|(refine gY ?_;intros)|(refine hY ?_ ?_<;>intro hgd)|(refine jY ?_ ?_<;>intro _)|fail)
   (refine rt_Y (y:=decide ((16384:Int)<(wkS xs:Int))) (hrs:=Tryz.results8) (hv:=?_) (hφ:=?_))
   ·rfl
   ·exact fun h=>⟨by have:=of_decide_eq_false t5;omega,by have:=of_decide_eq_false h;omega,hall⟩
 |true=>
  have h:i<xs.length:=by have:=of_decide_eq_true t1;omega
  cases t2:decide ((i:Int)<200)with
  |false=>
   have hbig:decide ((80:Int)<((xs.map ksV).length:Int))=true:=decide_eq_true (by have:=of_decide_eq_false t2;omega)
   repeat'(first|(refine gY ?_;intros)|(refine hY ?_ ?_<;>intro hgd)|(refine jY ?_ ?_<;>intro _)|fail)
   (refine rt_Y (y:=true) (hrs:=Tryz.results8) (hv:=?_) (hφ:=?_))
   ·rfl
   ·exact fun h=>by cases h
  |true=>
   have h3:i<200:=by have:=of_decide_eq_true t2;omega
   have hn1:i<(xs.map ksV).length:=by omega
   have hx:(xs.map ksV)[i]? =some (ksV xs[i]):=by rw[List.getElem?_map,List.getElem?_eq_getElem h];rfl
   have htk:xs.take (i+1)=xs.take i++[xs[i]]:=List.take_succ_eq_append_getElem h
   have hwt:=wkS_take h
   obtain⟨hvx,hzx,hkz,htz⟩:=hv _ (List.getElem_mem h)
   refine ok_learn (VwIn.base (VwIn.here hA) (by intro e;rw[e]at hn1;simp at hn1)) ?_
   rintro⟨bu,ou,rfl⟩
   generalize xs[i]=x at hx htk hvx hzx hkz htz hwt
   obtain⟨o,l,⟨v,hvc⟩,key,to_,n,m,left,bit⟩:=x
   dsimp only at hvx hzx hkz htz hwt
   dsimp only[ksV]at hx
   have hll:(l.map prV).length=l.length:=by simp
   have hL:=LargeP_spec v A l hvx hzx
   repeat'(first|(refine gY ?_;intros)|(refine hY ?_ ?_<;>intro hgd)|(refine jY ?_ ?_<;>intro _)|fail)
   refine cl_Y (hL) ?_
   intro y hy
   cases y with
   |true=>
    repeat'(first|(refine gY ?_;intros)|(refine hY ?_ ?_<;>intro hgd)|(refine jY ?_ ?_<;>intro _)|fail)
    (refine rt_Y (y:=true) (hrs:=Tryz.results8) (hv:=?_) (hφ:=?_))
    ·rfl
    ·exact fun h=>by cases h
   |false=>
    obtain⟨hl2,hz2⟩:=hy rfl
    refine ops_learn (VwIn.slice (VwIn.here hvx)) ?_
    rintro⟨pv,cv,rfl⟩
    have hz0:(wkS (xs.take i):Int)+(key.size:Int)+(to_.size:Int)=((wkS (xs.take i)+(key.size+to_.size)+wkL (l.take 0):Nat):Int):=by
     have:wkL (l.take 0)=0:=by simp[wkL,sumP]
     omega
    repeat'(first|(refine gY ?_;intros)|(refine hY ?_ ?_<;>intro hgd)|(refine jY ?_ ?_<;>intro _)|fail)
    refine ok_loop' (γ:=Nat) (fun k ρ L=>k≤l.length∧Knows ρ [(0,.slice (some ⟨bu,ou,none⟩) (xs.map ksV).length cu),(3,.int .i64 ((wkS (xs.take i)+(key.size+to_.size)+wkL (l.take k):Nat):Int)),(4,.int .i64 i),(5,.int .i64 k)]∧L=[A]++R) (fun k=>l.length-k) 0 ⟨by simp,⟨rfl,congrArg (Value.int .i64) hz0,rfl,rfl,trivial⟩,rfl⟩ ?_
    rintro k ρ L ⟨hkl,hk,rfl⟩
    refine ok_regs hk ?_
    have hpre:wkL (l.take k)≤39000:=by
     unfold wkL
     have h1:sumP (l.take k)≤sumP l:=by
      have:=congrArg sumP (List.take_append_drop k l)
      rw[sumP_appK]at this
      omega
     rw[List.length_take]
     omega
    cases t3:decide ((k:Int)<((l.map prV).length:Int))with
    |false=>
     have hke:k=l.length:=by have:=of_decide_eq_false t3;omega
     subst hke
     rw[List.take_length]at hpre
     rw[List.take_length]
     repeat'(first|(refine gY ?_;intros)|(refine hY ?_ ?_<;>intro hgd)|(refine jY ?_ ?_<;>intro _)|fail)
     refine cont_back (i+1) ⟨h,by omega,?_,by omega,⟨rfl,by rw[hwt];rfl,rfl,trivial⟩,rfl⟩ (by omega)
     intro x hxm
     rw[htk]at hxm
     rcases List.mem_append.1 hxm with hxm|hxm
     ·exact hall x hxm
     ·rw[List.mem_singleton]at hxm;subst hxm;exact⟨hl2,hz2⟩
    |true=>
     have hk1:k<l.length:=by have:=of_decide_eq_true t3;omega
     have hn2:k<(l.map prV).length:=by omega
     have hy:(l.map prV)[k]? =some (prV l[k]):=by rw[List.getElem?_map,List.getElem?_eq_getElem hk1];rfl
     have hlk:=wkL_take hk1
     have z2:=hzx _ (List.getElem_mem hk1)
     refine ok_learn (VwIn.base (VwIn.here hvx) (by intro e;rw[e]at hn2;simp at hn2)) ?_
     rintro⟨bv,ov,rfl⟩
     generalize l[k]=t at hy hlk z2
     obtain⟨tk,tv,tg⟩:=t
     dsimp only[prV]at hy
     dsimp only at hlk z2
     have hsum:(((wkS (xs.take i)+(key.size+to_.size)+wkL (l.take k):Nat):Int)+30)+(tk.size:Int)+(tv.size:Int)=((wkS (xs.take i)+(key.size+to_.size)+wkL (l.take (k+1)):Nat):Int):=by omega
     repeat'(first|(refine gY ?_;intros)|(refine hY ?_ ?_<;>intro hgd)|(refine jY ?_ ?_<;>intro _)|fail)
     refine cont_back (k+1) ⟨hk1,⟨rfl,congrArg (Value.int .i64) hsum,rfl,rfl,trivial⟩,rfl⟩ (by omega)
theorem mayC_iffK(c:UInt8):mayC c=true↔(97≤(c.toNat:Int)∧(c.toNat:Int)≤122)∨(48≤(c.toNat:Int)∧(c.toNat:Int)≤57)∨(c.toNat:Int)=46∨(c.toNat:Int)=45:=by
 unfold mayC
 simp only[Bool.not_eq_true',Bool.and_eq_false_iff,Bool.or_eq_false_iff,decide_eq_false_iff_not,Bool.not_eq_false',decide_eq_true_eq]
 omega
def nameBK(c:UInt8):Bool:= !(decide (97≤(c.toNat:Int))&&decide ((c.toNat:Int)≤122)||decide (48≤(c.toNat:Int))&&decide ((c.toNat:Int)≤57)||decide ((c.toNat:Int)=46)||decide ((c.toNat:Int)=45))
theorem refNameK_spec(s:BA)(hs:s.size≤4611686018427387904):FSpec Tryz.prog 44 [.string s] [] Unit (fun _=>True) (fun _=>.bool (mayN s)) (fun _=>[]):=by
 have hl:s.data.toList.length=s.size:=by simp
 refine spec_intro [] _ Tryz.func44 rfl Tryz.ntmps44 (by rfl) (fun w0 R=>?_)
 repeat'(first|(refine gY ?_;intros)|(refine hY ?_ ?_<;>intro hgd)|(refine jY ?_ ?_<;>intro _)|fail)
 refine ok_loop' (γ:=Nat) (fun i ρ L=>i≤s.size∧(s.data.toList.take i).all mayC=true∧Knows ρ [(0,.string s),(3,.int .i64 i)]∧L=R) (fun i=>s.size-i) 0 ⟨by omega,by simp,⟨rfl,rfl,trivial⟩,rfl⟩ ?_
 rintro i ρ L ⟨hi,hall,hk,rfl⟩
 refine ok_regs hk ?_
 cases t1:decide ((i:Int)<(s.size:Int))with
 |false=>
  have hie:i=s.size:=by have:=of_decide_eq_false t1;omega
  have hfull:s.data.toList.all mayC=true:=by rw[hie,List.take_of_length_le (by omega)]at hall;exact hall
  have hm:mayN s=(decide ((1:Int)≤(s.size:Int))&&decide ((s.size:Int)≤64)):=by
   unfold mayN;rw[hfull,Bool.true_and]
   congr 1<;>(rw[Bool.eq_iff_iff];simp;try omega)
  rw[hm]
  cases u1:decide ((1:Int)≤(s.size:Int))with
  |true=>
   repeat'(first|(refine gY ?_;intros)|(refine hY ?_ ?_<;>intro hgd)|(refine jY ?_ ?_<;>intro _)|fail)
   (refine rt_Y (y:=()) (hrs:=Tryz.results44) (hv:=?_) (hφ:=?_))
   ·rfl
   ·trivial
  |false=>
   repeat'(first|(refine gY ?_;intros)|(refine hY ?_ ?_<;>intro hgd)|(refine jY ?_ ?_<;>intro _)|fail)
   (refine rt_Y (y:=()) (hrs:=Tryz.results44) (hv:=?_) (hφ:=?_))
   ·rfl
   ·trivial
 |true=>
  have h:i<s.size:=of_decide_eq_true t1|>fun h=>by omega
  have hx:s.data.toList[i]? =some (s.data.toList[i]'(by omega)):=List.getElem?_eq_getElem _
  have htk:s.data.toList.take (i+1)=s.data.toList.take i++[s.data.toList[i]'(by omega)]:=List.take_succ_eq_append_getElem (by omega)
  have hin:(s.data.toList[i]'(by omega))∈s.data.toList:=List.getElem_mem _
  generalize s.data.toList[i]'(by omega)=c at hx htk hin
  have hno:mayC c=false→mayN s=false:=fun hm=>by
   have:s.data.toList.all mayC=false:=List.all_eq_false.2 ⟨c,hin,by simp[hm]⟩
   simp only[mayN,this,Bool.false_and]
  have hyes:mayC c=true→(s.data.toList.take (i+1)).all mayC=true:=fun hm=>by rw[htk,List.all_append,hall];simp[hm]
  have hi1:i+1≤s.size:=h
  have hmi:=mayC_iffK c
  clear htk hin hall hl
  cases a1:decide (97≤(c.toNat:Int))<;>cases a2:decide ((c.toNat:Int)≤122)<;>cases a3:decide (48≤(c.toNat:Int))<;>cases a4:decide ((c.toNat:Int)≤57)<;>cases a5:decide ((c.toNat:Int)=46)<;>cases a6:decide ((c.toNat:Int)=45)
  all_goals(have a7:=congrArg not a6;simp only[Bool.not_true,Bool.not_false]at a7)
  all_goals first
   |(exfalso;simp only[decide_eq_true_eq,decide_eq_false_iff_not]at a1 a2 a3 a4 a5 a6;omega)
   |(
     have hm:mayC c=true:=by(rw[hmi];simp only[decide_eq_true_eq,decide_eq_false_iff_not]at a1 a2 a3 a4 a5 a6;omega)
     repeat'(first|(refine gY ?_;intros)|(refine hY ?_ ?_<;>intro hgd)|(refine jY ?_ ?_<;>intro _)|fail)
     refine cont_back (i+1) ⟨hi1,hyes hm,⟨rfl,rfl,trivial⟩,rfl⟩ (by omega))
   |(
     have hm:mayC c=false:=by(rw[Bool.eq_false_iff,ne_eq,hmi];simp only[decide_eq_true_eq,decide_eq_false_iff_not]at a1 a2 a3 a4 a5 a6;omega)
     rw[hno hm]
     repeat'(first|(refine gY ?_;intros)|(refine hY ?_ ?_<;>intro hgd)|(refine jY ?_ ?_<;>intro _)|fail)
     (refine rt_Y (y:=()) (hrs:=Tryz.results44) (hv:=?_) (hφ:=?_))
     ·rfl
     ·trivial
    )
def nameK(s:BA):Bool:=mayN s&&decide ((s.size:Int)≤32)
theorem refName12_spec(s:BA)(hs:s.size≤4611686018427387904):FSpec Tryz.prog 14 [.string s] [] Unit (fun _=>True) (fun _=>.bool (nameK s)) (fun _=>[]):=by
 have h:=refNameK_spec s hs
 unfold nameK
 cases e:mayN s with
 |true=>
  rw[e]at h
  rw[Bool.true_and]
  refine spec_intro [] _ Tryz.func14 rfl Tryz.ntmps14 (by rfl) (fun w0 R=>?_)
  repeat'(first|(refine gY ?_;intros)|(refine hY ?_ ?_<;>intro hgd)|(refine jY ?_ ?_<;>intro _)|fail)
  refine cl_Y (h) ?_
  intro _ _
  repeat'(first|(refine gY ?_;intros)|(refine hY ?_ ?_<;>intro hgd)|(refine jY ?_ ?_<;>intro _)|fail)
  (refine rt_Y (y:=()) (hrs:=Tryz.results14) (hv:=?_) (hφ:=?_))
  ·rfl
  ·trivial
 |false=>
  rw[e]at h
  rw[Bool.false_and]
  refine spec_intro [] _ Tryz.func14 rfl Tryz.ntmps14 (by rfl) (fun w0 R=>?_)
  repeat'(first|(refine gY ?_;intros)|(refine hY ?_ ?_<;>intro hgd)|(refine jY ?_ ?_<;>intro _)|fail)
  refine cl_Y (h) ?_
  intro _ _
  repeat'(first|(refine gY ?_;intros)|(refine hY ?_ ?_<;>intro hgd)|(refine jY ?_ ?_<;>intro _)|fail)
  (refine rt_Y (y:=()) (hrs:=Tryz.results14) (hv:=?_) (hφ:=?_))
  ·rfl
  ·trivial
theorem kOpen_bad(b:Nat)(nm:BA)(hz:nm.size≤140737488355328)(hn:nameK nm=false):FSpec Tryz.prog 12 [.pointer (some ⟨b,0,none⟩),.string nm] [diskP b (newD 1000)] Unit (fun _=>True) (fun _=>.tuple #[.pointer none,.int .i64 2]) (fun _=>[]):=by
 by_cases h1:nm.size<1∨32<nm.size
 ·exact(kOpen_arg b nm h1 hz).conseq (fun R h s=>s.tail) (fun y _=>⟨(),trivial,rfl,fun R h s=>s⟩)
 ·have hm:mayN nm=false:=by
   unfold nameK at hn
   rw[show decide ((nm.size:Int)≤32)=true from decide_eq_true (by omega),Bool.and_true]at hn
   exact hn
  have hmm:mayN (manK nm)=false:=by
   have ha:nm.data.toList.all mayC=false:=by
    unfold mayN at hm
    rw[show decide (1≤nm.size)=true from decide_eq_true (by omega),show decide (nm.size≤64)=true from decide_eq_true (by omega),Bool.and_true,Bool.and_true]at hm
    exact hm
   unfold mayN manK
   rw[ByteArray.data_append,Array.toList_append,List.all_append,ha];rfl
  have hr:(newD 1000).read (manK nm) 0 16777216=(⟨#[]⟩,2):=by
   unfold Dk.read Dk.live
   have:([manK nm]:List BA).any (fun s=> !mayN s)=true:=by simp[hmm]
   rw[this];rfl
  have hL:(loadK nm (newD 1000)).2.2=2:=by
   unfold loadK loadD
   rw[hr];rfl
  have:=kOpenE1 b nm (newD 1000) (by omega) (by omega) (Dk.Ok.new (by decide) (by decide)) (by show([]:List Cl).length≤_;simp) (by rw[hL];decide)
  rw[hL]at this
  exact this.conseq (fun R h s=>s) (fun y _=>⟨(),trivial,rfl,fun R h s=>s.tail⟩)
set_option maxHeartbeats 8000000 in
theorem KvNil_spec(A:HProp)(x:Ks)(nm:BA)(hx:KsOk A x)(hn:nm.size≤140737488355328):
  FSpec Tryz.prog 3 [.agg (ksV x).toArray,.string nm] [A] Unit (fun _=>True) (fun _=>.bool true) (fun _=>[A]):=by
 have hN:=refName12_spec nm (by omega)
 have hNb:=fun b=>kOpen_bad b nm hn
 have hNg:=fun b (h:nameK nm=true)=>kOpen_new b (nm:=nm) (room:=1000) ⟨by
  unfold nameK at h
  rw[Bool.and_eq_true]at h
  exact h.1,by
  unfold nameK at h
  rw[Bool.and_eq_true]at h
  have:=of_decide_eq_true h.2
  omega⟩ (by decide) (by decide)
 have hH:=fun v=>HeavyK_spec v (fun h=>SatL [row 24 8 v [ksV x],A] h) [x] (fun h s=>by
  obtain⟨h1,h2,_,l1,_,hp,_⟩:=s
  exact(Vw.row h1 hp).mono l1) (fun y hy=>by
  rw[List.mem_singleton.1 hy]
  refine⟨fun h s=>?_,hx.sz,hx.kz,hx.tz⟩
  obtain⟨h1,h2,_,_,l2,_,h3,h4,_,l3,_,hp,_⟩:=s
  exact(hx.vw h3 hp).mono (l3.trans l2))
 have e0:BEq.beq (⟨#[]⟩:BA).toList (⟨#[]⟩:BA).toList=true:=beq_self_eq_true _
 obtain⟨o,l,⟨v0,hv0⟩,key,to_,n,m,left,bit⟩:=x
 have hAp:=kApply_nil v0 hv0
 have hG:=kGet_nil key
 have hS:=kScan_nil key to_ n
 have hO:=kOpen_nil nm
 dsimp only[ksV]at hH ⊢
 have hz0:decide (((0:Nat):Int)=0)=true:=rfl
 have b1:BEq.beq true true=true:=rfl
 have b2':BEq.beq false false=true:=rfl
 have hvw:=hx.vw
 dsimp only at hvw
 refine spec_intro [] _ Tryz.func3 rfl Tryz.ntmps3 (by rfl) (fun w0 R=>?_)
 refine ok_learn (VwIn.slice (VwIn.here hvw)) ?_
 rintro⟨pv,cv,rfl⟩
 repeat'(first|(refine gY ?_;intros)|(refine hY ?_ ?_<;>intro hgd)|(refine jY ?_ ?_<;>intro _)|fail)
 rename_i b2 v hv
 refine opsL_mapL (L':=[row 24 8 v [[.int .i64 o,.slice pv (l.map prV).length cv,.string key,.string to_,.int .i64 n,.int .i64 m,.int .i64 left,.int .u8 bit]],A,pts b2 (.cells [.int .i64 o,.slice pv (l.map prV).length cv,.string key,.string to_,.int .i64 n,.int .i64 m,.int .i64 left,.int .u8 bit].toArray 24)]++R) entD ?_
 refine opsL_mapL (fun _ s=>SatL.unflat (M:=[row 24 8 v [[.int .i64 o,.slice pv (l.map prV).length cv,.string key,.string to_,.int .i64 n,.int .i64 m,.int .i64 left,.int .u8 bit]],A]) s) ?_
 refine cl_Y (hH v) ?_
 intro y _
 refine opsL_mapL (fun _ s=>SatL.flat (M:=[row 24 8 v [[.int .i64 o,.slice pv (l.map prV).length cv,.string key,.string to_,.int .i64 n,.int .i64 m,.int .i64 left,.int .u8 bit]],A]) s) ?_
 cases y with
 |true=>
  repeat'(first|(refine gY ?_;intros)|(refine hY ?_ ?_<;>intro hgd)|(refine jY ?_ ?_<;>intro _)|fail)
  refine cl_Y (alive12_spec) ?_
  intro _ _
  repeat'(first|(refine gY ?_;intros)|(refine hY ?_ ?_<;>intro hgd)|(refine jY ?_ ?_<;>intro _)|fail)
  (refine rt_Y (y:=()) (hrs:=Tryz.results3) (hv:=?_) (hφ:=?_))
  ·rfl
  ·trivial
 |false=>
  cases t1:decide ((100:Int)<(nm.size:Int))with
  |true=>
   repeat'(first|(refine gY ?_;intros)|(refine hY ?_ ?_<;>intro hgd)|(refine jY ?_ ?_<;>intro _)|fail)
   refine cl_Y (alive12_spec) ?_
   intro _ _
   repeat'(first|(refine gY ?_;intros)|(refine hY ?_ ?_<;>intro hgd)|(refine jY ?_ ?_<;>intro _)|fail)
   (refine rt_Y (y:=()) (hrs:=Tryz.results3) (hv:=?_) (hφ:=?_))
   ·rfl
   ·trivial
  |false=>
   repeat'(first|(refine gY ?_;intros)|(refine hY ?_ ?_<;>intro hgd)|(refine jY ?_ ?_<;>intro _)|fail)
   refine cl_Y (hG) ?_
   intro _ _
   repeat'(first|(refine gY ?_;intros)|(refine hY ?_ ?_<;>intro hgd)|(refine jY ?_ ?_<;>intro _)|fail)
   refine cl_Y (hS) ?_
   intro _ _
   repeat'(first|(refine gY ?_;intros)|(refine hY ?_ ?_<;>intro hgd)|(refine jY ?_ ?_<;>intro _)|fail)
   refine cl_Y (hO) ?_
   intro _ _
   repeat'(first|(refine gY ?_;intros)|(refine hY ?_ ?_<;>intro hgd)|(refine jY ?_ ?_<;>intro _)|fail)
   refine cl_Y (new_spec 1000 (by decide) (by decide)) ?_
   intro b _
   repeat'(first|(refine gY ?_;intros)|(refine hY ?_ ?_<;>intro hgd)|(refine jY ?_ ?_<;>intro _)|fail)
   cases hnk:nameK nm with
   |true=>
    rw[hnk]at hN
    refine cl_Y (hNg b hnk) ?_
    rintro⟨kb,mb,K⟩ _
    dsimp only
    repeat'(first|(refine gY ?_;intros)|(refine hY ?_ ?_<;>intro hgd)|(refine jY ?_ ?_<;>intro _)|fail)
    refine cl_Y (hN) ?_
    intro _ _
    repeat'(first|(refine gY ?_;intros)|(refine hY ?_ ?_<;>intro hgd)|(refine jY ?_ ?_<;>intro _)|fail)
    refine cl_Y (hAp) ?_
    intro _ _
    repeat'(first|(refine gY ?_;intros)|(refine hY ?_ ?_<;>intro hgd)|(refine jY ?_ ?_<;>intro _)|fail)
    refine cl_Y (kFlush_nil) ?_
    intro _ _
    repeat'(first|(refine gY ?_;intros)|(refine hY ?_ ?_<;>intro hgd)|(refine jY ?_ ?_<;>intro _)|fail)
    refine cl_Y (kCompact_nil) ?_
    intro _ _
    repeat'(first|(refine gY ?_;intros)|(refine hY ?_ ?_<;>intro hgd)|(refine jY ?_ ?_<;>intro _)|fail)
    refine cl_Y (kRuns_nil) ?_
    intro _ _
    repeat'(first|(refine gY ?_;intros)|(refine hY ?_ ?_<;>intro hgd)|(refine jY ?_ ?_<;>intro _)|fail)
    refine cl_Y (kFault_nil) ?_
    intro _ _
    repeat'(first|(refine gY ?_;intros)|(refine hY ?_ ?_<;>intro hgd)|(refine jY ?_ ?_<;>intro _)|fail)
    refine cl_Y (alive12_spec) ?_
    intro _ _
    repeat'(first|(refine gY ?_;intros)|(refine hY ?_ ?_<;>intro hgd)|(refine jY ?_ ?_<;>intro _)|fail)
    (refine rt_Y (y:=()) (hrs:=Tryz.results3) (hv:=?_) (hφ:=?_))
    ·rfl
    ·trivial
   |false=>
    rw[hnk]at hN
    refine cl_Y (hNb b hnk) ?_
    intro _ _
    repeat'(first|(refine gY ?_;intros)|(refine hY ?_ ?_<;>intro hgd)|(refine jY ?_ ?_<;>intro _)|fail)
    refine cl_Y (hN) ?_
    intro _ _
    repeat'(first|(refine gY ?_;intros)|(refine hY ?_ ?_<;>intro hgd)|(refine jY ?_ ?_<;>intro _)|fail)
    refine cl_Y (hAp) ?_
    intro _ _
    repeat'(first|(refine gY ?_;intros)|(refine hY ?_ ?_<;>intro hgd)|(refine jY ?_ ?_<;>intro _)|fail)
    refine cl_Y (kFlush_nil) ?_
    intro _ _
    repeat'(first|(refine gY ?_;intros)|(refine hY ?_ ?_<;>intro hgd)|(refine jY ?_ ?_<;>intro _)|fail)
    refine cl_Y (kCompact_nil) ?_
    intro _ _
    repeat'(first|(refine gY ?_;intros)|(refine hY ?_ ?_<;>intro hgd)|(refine jY ?_ ?_<;>intro _)|fail)
    refine cl_Y (kRuns_nil) ?_
    intro _ _
    repeat'(first|(refine gY ?_;intros)|(refine hY ?_ ?_<;>intro hgd)|(refine jY ?_ ?_<;>intro _)|fail)
    refine cl_Y (kFault_nil) ?_
    intro _ _
    repeat'(first|(refine gY ?_;intros)|(refine hY ?_ ?_<;>intro hgd)|(refine jY ?_ ?_<;>intro _)|fail)
    refine cl_Y (alive12_spec) ?_
    intro _ _
    repeat'(first|(refine gY ?_;intros)|(refine hY ?_ ?_<;>intro hgd)|(refine jY ?_ ?_<;>intro _)|fail)
    (refine rt_Y (y:=()) (hrs:=Tryz.results3) (hv:=?_) (hφ:=?_))
    ·rfl
    ·trivial
end Go.Proofs.YtgbmjoenbocfcaaGreat
