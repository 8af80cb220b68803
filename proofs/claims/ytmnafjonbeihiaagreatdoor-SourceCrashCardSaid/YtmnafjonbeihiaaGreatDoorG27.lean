/- Texts merged: QaA QaB QaP QaC. -/
import Derived.Test.YtmnafjonbeihiaaGreatDoorH36
set_option linter.unusedSimpArgs false
set_option linter.unusedVariables false
set_option maxRecDepth 100000
namespace Go.Proofs.YtmnafjonbeihiaaGreatDoor
open Go Go.Fx Go.Proofs Go.Pl
theorem nameC_ref(c:UInt8):nameC c=((decide ((97:Int)≤(c.toNat:Int))&&decide ((c.toNat:Int)≤122))||(decide ((48:Int)≤(c.toNat:Int))&&decide ((c.toNat:Int)≤57))):=by
 unfold nameC
 rw[Bool.eq_iff_iff]
 simp only[Bool.not_eq_true',Bool.and_eq_false_iff,Bool.or_eq_false_iff,decide_eq_false_iff_not,Bool.or_eq_true,Bool.and_eq_true,decide_eq_true_eq]
 omega
theorem nameS_ref(s:BA):nameS s=(s.data.toList.all nameC&&(decide ((1:Int)≤(s.size:Int))&&decide ((s.size:Int)≤16))):=by
 have hem:(!(s.toList==(⟨#[]⟩:BA).toList))=decide ((1:Int)≤(s.size:Int)):=by
  have e1:s.toList.length=s.size:=by rw[ByteArray.toList_eq];simp
  have e2:(⟨#[]⟩:BA).toList=[]:=by rw[ByteArray.toList_eq]
  rw[Bool.eq_iff_iff,e2]
  cases h:s.toList with
  |nil=>rw[h]at e1;simp at e1;simp;omega
  |cons a l=>rw[h]at e1;simp at e1;simp;omega
 have t3:decide ((s.size:Int)≤16)=decide (s.size≤16):=by rw[Bool.eq_iff_iff];simp;omega
 unfold nameS
 rw[hem,t3]
theorem rName_spec(s:ByteArray)(hs:s.size≤4611686018427387904):FSpec Tryz.prog 56 [.string s] [] Unit (fun _=>True) (fun _=>.bool (nameS s)) (fun _=>[]):=by
 refine spec_intro [] _ Tryz.func56 rfl Tryz.ntmps56 (by rfl) (fun w0 R=>?_)
 repeat'(first|(refine gY ?_;intros)|(refine hY ?_ ?_<;>intro hgd)|(refine jY ?_ ?_<;>intro _)|fail)
 refine ok_loop' (γ:=Nat) (fun n ρ L=>n≤s.size∧(s.data.toList.take n).all nameC=true∧Knows ρ [(0,.string s),(3,.int .i64 n)]∧L=R) (fun n=>s.size-n) 0 ⟨by omega,rfl,⟨rfl,rfl,trivial⟩,rfl⟩ ?_
 rintro n ρ L ⟨hn,hall,hk,rfl⟩
 refine ok_regs hk ?_
 cases t1:decide ((n:Int)<(s.size:Int))with
 |false=>
  have hn':n=s.size:=by simp at t1;omega
  have hfull:s.data.toList.all nameC=true:=by rw[hn',List.take_of_length_le (by simp)]at hall;exact hall
  rw[nameS_ref,hfull,Bool.true_and]
  cases t2:decide ((1:Int)≤(s.size:Int))with
  |false=>
   repeat'(first|(refine gY ?_;intros)|(refine hY ?_ ?_<;>intro hgd)|(refine jY ?_ ?_<;>intro _)|fail)
   (refine rt_Y (y:=()) (hrs:=Tryz.results56) (hv:=?_) (hφ:=?_))
   ·rfl
   ·trivial
  |true=>
   rw[Bool.true_and]
   repeat'(first|(refine gY ?_;intros)|(refine hY ?_ ?_<;>intro hgd)|(refine jY ?_ ?_<;>intro _)|fail)
   (refine rt_Y (y:=()) (hrs:=Tryz.results56) (hv:=?_) (hφ:=?_))
   ·rfl
   ·trivial
 |true=>
  have h:n<s.data.toList.length:=by simp at t1;simpa using t1
  have hnt:n+1≤s.size:=by have h':=h;simp at h';omega
  have hin:s.data.toList[n]∈s.data.toList:=List.getElem_mem h
  have hx:s.data.toList[n]? =some s.data.toList[n]:=List.getElem?_eq_getElem h
  have htk:s.data.toList.take (n+1)=s.data.toList.take n++[s.data.toList[n]]:=List.take_succ_eq_append_getElem h
  generalize hc:s.data.toList[n]=c at hx htk hin
  clear hc
  have hgo:nameC c=true→((s.data.toList.take (n+1)).all nameC=true):=fun hm=>by rw[htk,List.all_append,hall];simp[hm]
  have hno:nameC c=false→nameS s=false:=fun hm=>by
   have:s.data.toList.all nameC=false:=List.all_eq_false.2 ⟨c,hin,by simp[hm]⟩
   simp only[nameS,this,Bool.false_and]
  rw[nameC_ref]at hgo hno
  cases u1:decide ((97:Int)≤(c.toNat:Int))<;>cases u2:decide ((c.toNat:Int)≤122)<;>cases u3:decide ((48:Int)≤(c.toNat:Int))<;>cases u4:decide ((c.toNat:Int)≤57)<;>rw[u1,u2,u3,u4]at hgo hno
  all_goals clear hk
  all_goals(have v2:=congrArg Bool.not u2;have v4:=congrArg Bool.not u4;simp only[Bool.not_true,Bool.not_false]at v2 v4)
  all_goals repeat'(first|(refine gY ?_;intros)|(refine hY ?_ ?_<;>intro hgd)|(refine jY ?_ ?_<;>intro _)|fail)
  all_goals first
   |(refine cont_back (n+1) ⟨hnt,hgo rfl,⟨rfl,rfl,trivial⟩,rfl⟩ (by omega))
   |(
    rw[hno rfl]
    (refine rt_Y (y:=()) (hrs:=Tryz.results56) (hv:=?_) (hφ:=?_))
    ·rfl
    ·trivial)
def okC(c:Co):Bool:=nameS c.name&&(!decide (c.kind<1)&& !decide (5<c.kind))
def colsR(l:List Co)(key:Int):Bool:=(l.all okC&&decide (l.map (·.name)).Nodup)&&(decide ((1:Int)≤(l.length:Int))&&(decide ((l.length:Int)≤8)&&(decide ((0:Int)≤key)&&(decide (key<(l.length:Int))&& !(colAt l key).null))))
theorem ba_ne{a b:BA}(h:a≠b):(a.toList==b.toList)=false:=by
 rw[beq_eq_false_iff_ne]
 intro e
 exact h (by
  rw[ByteArray.toList_eq,ByteArray.toList_eq]at e
  cases a;cases b;simp at e;subst e;rfl)
set_option maxHeartbeats 4000000 in
theorem rCols_spec(t:Tb)(A:HProp)(ht:TbOk A t):FSpec Tryz.prog 57 [.agg (tbV t).toArray] [A] Unit (fun _=>True) (fun _=>.bool (colsR t.cols t.key)) (fun _=>[A]):=by
 obtain⟨hv,hlen,hnm,hcnm⟩:=ht
 obtain⟨tn,cols,⟨cv,hcv⟩,key,ref,par⟩:=t
 dsimp only[tbV]at hv hlen hnm hcnm ⊢
 generalize hT:colsR cols key=T
 have hlm:(cols.map coV).length=cols.length:=by simp
 refine spec_intro [] _ Tryz.func57 rfl Tryz.ntmps57 (by rfl) (fun w0 R=>?_)
 refine ok_learn (VwIn.slice (VwIn.here hv)) ?_
 rintro⟨pc,cc,rfl⟩
 repeat'(first|(refine gY ?_;intros)|(refine hY ?_ ?_<;>intro hgd)|(refine jY ?_ ?_<;>intro _)|fail)
 rename_i b1
 refine ok_map (L':=[pts b1 (.cells [.string tn,.slice pc (cols.map coV).length cc,.int .i64 key,.int .i64 ref,.int .i64 par].toArray 111),A]++R) entD ?_
 refine ok_loop' (γ:=Nat) (fun i ρ L=>i≤cols.length∧(cols.take i).all okC=true∧((cols.take i).map (·.name)).Nodup∧
   Knows ρ [(1,.pointer (some ⟨b1,0,none⟩)),(3,.int .i64 i)]∧
   L=[pts b1 (.cells [.string tn,.slice pc (cols.map coV).length cc,.int .i64 key,.int .i64 ref,.int .i64 par].toArray 111),A]++R) (fun i=>cols.length-i)
  0 ⟨by omega,rfl,by simp,⟨rfl,rfl,trivial⟩,rfl⟩ ?_
 rintro i ρ L ⟨hi,hall,hnd,hk,rfl⟩
 refine ok_regs hk ?_
 cases t1:decide ((i:Int)<((cols.map coV).length:Int))with
 |true=>
  have h:i<cols.length:=by simp at t1;omega
  have hci:cols[i]? =some cols[i]:=List.getElem?_eq_getElem h
  have hx:(cols.map coV)[i]? =some (coV cols[i]):=by rw[List.getElem?_map,hci];rfl
  have hn1:i<(cols.map coV).length:=by omega
  have htk:cols.take (i+1)=cols.take i++[cols[i]]:=List.take_succ_eq_append_getElem h
  have hin:=List.getElem_mem h
  have hsz:=hcnm _ hin
  refine ok_learn (VwIn.base (VwIn.there (VwIn.here hv)) (by intro e;rw[e]at hn1;simp at hn1)) ?_
  rintro⟨bu,ou,rfl⟩
  have hdup:cols[i].name∈(cols.take i).map (·.name)→T=false:=fun hm=>by
   have:¬ (cols.map (·.name)).Nodup:=fun hd=>by
    have hd2:((cols.take (i+1)).map (·.name)).Nodup:=hd.sublist ((List.take_sublist ..).map _)
    rw[htk,List.map_append,List.nodup_append]at hd2
    exact hd2.2.2 _ hm _ (List.mem_singleton.2 rfl) rfl
   rw[← hT];unfold colsR;simp[this]
  have hbad:okC cols[i]=false→T=false:=fun hb=>by
   have:cols.all okC=false:=List.all_eq_false.2 ⟨_,hin,by simp[hb]⟩
   rw[← hT];unfold colsR;rw[this];rfl
  generalize cols[i]=c at hx htk hsz hin hdup hbad
  obtain⟨cn,ck,cb⟩:=c
  dsimp only[coV,okC]at hx hsz hdup hbad
  have hns:=rName_spec cn (by omega)
  cases hb:nameS cn with
  |false=>
   rw[hbad (by rw[hb];rfl)]
   rw[hb]at hns
   repeat'(first|(refine gY ?_;intros)|(refine hY ?_ ?_<;>intro hgd)|(refine jY ?_ ?_<;>intro _)|fail)
   refine cl_Y (hns) ?_
   intro _ _
   repeat'(first|(refine gY ?_;intros)|(refine hY ?_ ?_<;>intro hgd)|(refine jY ?_ ?_<;>intro _)|fail)
   (refine rt_Y (y:=()) (hrs:=Tryz.results57) (hv:=?_) (hφ:=?_))
   ·rfl
   ·trivial
  |true=>
   rw[hb]at hns
   cases u1:decide (ck<1)with
   |true=>
    rw[hbad (by rw[hb,u1];rfl)]
    repeat'(first|(refine gY ?_;intros)|(refine hY ?_ ?_<;>intro hgd)|(refine jY ?_ ?_<;>intro _)|fail)
    refine cl_Y (hns) ?_
    intro _ _
    repeat'(first|(refine gY ?_;intros)|(refine hY ?_ ?_<;>intro hgd)|(refine jY ?_ ?_<;>intro _)|fail)
    (refine rt_Y (y:=()) (hrs:=Tryz.results57) (hv:=?_) (hφ:=?_))
    ·rfl
    ·trivial
   |false=>
    cases u2:decide (5<ck)with
    |true=>
     rw[hbad (by rw[hb,u1,u2];rfl)]
     repeat'(first|(refine gY ?_;intros)|(refine hY ?_ ?_<;>intro hgd)|(refine jY ?_ ?_<;>intro _)|fail)
     refine cl_Y (hns) ?_
     intro _ _
     repeat'(first|(refine gY ?_;intros)|(refine hY ?_ ?_<;>intro hgd)|(refine jY ?_ ?_<;>intro _)|fail)
     (refine rt_Y (y:=()) (hrs:=Tryz.results57) (hv:=?_) (hφ:=?_))
     ·rfl
     ·trivial
    |false=>
     repeat'(first|(refine gY ?_;intros)|(refine hY ?_ ?_<;>intro hgd)|(refine jY ?_ ?_<;>intro _)|fail)
     rename_i b4
     refine cl_Y (hns) ?_
     intro _ _
     repeat'(first|(refine gY ?_;intros)|(refine hY ?_ ?_<;>intro hgd)|(refine jY ?_ ?_<;>intro _)|fail)
     refine ok_map (L':=[pts b4 (.cells [.string cn,.int .u8 ck,.bool cb].toArray 163),pts b1 (.cells [.string tn,.slice (some ⟨bu,ou,none⟩) (cols.map coV).length cc,.int .i64 key,.int .i64 ref,.int .i64 par].toArray 111),A]++R) entD ?_
     refine ok_loop' (γ:=Nat) (fun k ρ L=>k≤i∧cn∉(cols.take k).map (·.name)∧
       Knows ρ [(1,.pointer (some ⟨b1,0,none⟩)),(3,.int .i64 i),(4,.pointer (some ⟨b4,0,none⟩)),(5,.int .i64 k)]∧
       L=[pts b4 (.cells [.string cn,.int .u8 ck,.bool cb].toArray 163),pts b1 (.cells [.string tn,.slice (some ⟨bu,ou,none⟩) (cols.map coV).length cc,.int .i64 key,.int .i64 ref,.int .i64 par].toArray 111),A]++R) (fun k=>i-k)
      0 ⟨by omega,by simp,⟨rfl,rfl,rfl,rfl,trivial⟩,rfl⟩ ?_
     rintro k ρ L ⟨hk1,hno,hk,rfl⟩
     refine ok_regs hk ?_
     cases t2:decide ((k:Int)<(i:Int))with
     |false=>
      have hke:k=i:=by simp at t2;omega
      subst hke
      have hokc:okC ⟨cn,ck,cb⟩=true:=by simp only[okC,hb,u1,u2];rfl
      repeat'(first|(refine gY ?_;intros)|(refine hY ?_ ?_<;>intro hgd)|(refine jY ?_ ?_<;>intro _)|fail)
      refine cont_map (L':=[pts b1 (.cells [.string tn,.slice (some ⟨bu,ou,none⟩) (cols.map coV).length cc,.int .i64 key,.int .i64 ref,.int .i64 par].toArray 111),A]++R) entD ?_
      refine cont_back (k+1) ⟨h,by rw[htk,List.all_append,hall];simp[hokc],by rw[htk,List.map_append,List.nodup_append];exact⟨hnd,by simp,fun a ha b hb e=>by rw[List.map_cons,List.map_nil,List.mem_singleton]at hb;subst hb;subst e;exact hno ha⟩,⟨rfl,rfl,trivial⟩,rfl⟩ (by omega)
     |true=>
      have h2:k<i:=by simp at t2;omega
      have hck:cols[k]? =some (cols[k]'(by omega)):=List.getElem?_eq_getElem _
      have hy:(cols.map coV)[k]? =some (coV (cols[k]'(by omega))):=by rw[List.getElem?_map,hck];rfl
      have hn2:k<(cols.map coV).length:=by omega
      have htk2:cols.take (k+1)=cols.take k++[cols[k]'(by omega)]:=List.take_succ_eq_append_getElem _
      have hmi:(cols[k]'(by omega))∈cols.take i:=List.mem_of_getElem? (by rw[List.getElem?_take,if_pos h2];exact hck)
      generalize (cols[k]'(by omega))=d at hy htk2 hmi
      obtain⟨dn,dk,db⟩:=d
      dsimp only[coV]at hy
      by_cases he:dn=cn
      ·subst he
       obtain rfl:T=false:=hdup (List.mem_map_of_mem (f:=fun x:Co=>x.name) hmi)
       have e1:(dn.toList==dn.toList)=true:=beq_self_eq_true _
       repeat'(first|(refine gY ?_;intros)|(refine hY ?_ ?_<;>intro hgd)|(refine jY ?_ ?_<;>intro _)|fail)
       (refine rt_Y (y:=()) (hrs:=Tryz.results57) (hv:=?_) (hφ:=?_))
       ·rfl
       ·trivial
      ·have e1:=ba_ne he
       repeat'(first|(refine gY ?_;intros)|(refine hY ?_ ?_<;>intro hgd)|(refine jY ?_ ?_<;>intro _)|fail)
       refine cont_map (L':=[pts b4 (.cells [.string cn,.int .u8 ck,.bool cb].toArray 163),pts b1 (.cells [.string tn,.slice (some ⟨bu,ou,none⟩) (cols.map coV).length cc,.int .i64 key,.int .i64 ref,.int .i64 par].toArray 111),A]++R) entD ?_
       refine cont_back (k+1) ⟨h2,by rw[htk2,List.map_append,List.mem_append,not_or];exact⟨hno,by rw[List.map_cons,List.map_nil,List.mem_singleton];exact fun e=>he e.symm⟩,⟨rfl,rfl,rfl,rfl,trivial⟩,rfl⟩ (by omega)
 |false=>
  have hie:i=cols.length:=by simp at t1;omega
  rw[hie,List.take_length]at hall hnd
  have hT':T=(decide ((1:Int)≤(cols.length:Int))&&(decide ((cols.length:Int)≤8)&&(decide ((0:Int)≤key)&&(decide (key<(cols.length:Int))&& !(colAt cols key).null)))):=by
   rw[← hT];unfold colsR;rw[hall,decide_eq_true hnd];rfl
  clear hT
  rw[← hlm]at hT'
  cases v1:decide ((1:Int)≤((cols.map coV).length:Int))with
  |false=>
   obtain rfl:T=false:=by rw[hT',v1];rfl
   clear hT'
   repeat'(first|(refine gY ?_;intros)|(refine hY ?_ ?_<;>intro hgd)|(refine jY ?_ ?_<;>intro _)|fail)
   (refine rt_Y (y:=()) (hrs:=Tryz.results57) (hv:=?_) (hφ:=?_))
   ·rfl
   ·trivial
  |true=>
   cases v2:decide (((cols.map coV).length:Int)≤8)with
   |false=>
    obtain rfl:T=false:=by rw[hT',v1,v2];rfl
    clear hT'
    repeat'(first|(refine gY ?_;intros)|(refine hY ?_ ?_<;>intro hgd)|(refine jY ?_ ?_<;>intro _)|fail)
    (refine rt_Y (y:=()) (hrs:=Tryz.results57) (hv:=?_) (hφ:=?_))
    ·rfl
    ·trivial
   |true=>
    cases v3:decide ((0:Int)≤key)with
    |false=>
     obtain rfl:T=false:=by rw[hT',v1,v2,v3];rfl
     clear hT'
     repeat'(first|(refine gY ?_;intros)|(refine hY ?_ ?_<;>intro hgd)|(refine jY ?_ ?_<;>intro _)|fail)
     (refine rt_Y (y:=()) (hrs:=Tryz.results57) (hv:=?_) (hφ:=?_))
     ·rfl
     ·trivial
    |true=>
     cases v4:decide (key<((cols.map coV).length:Int))with
     |false=>
      obtain rfl:T=false:=by rw[hT',v1,v2,v3,v4];rfl
      clear hT'
      repeat'(first|(refine gY ?_;intros)|(refine hY ?_ ?_<;>intro hgd)|(refine jY ?_ ?_<;>intro _)|fail)
      (refine rt_Y (y:=()) (hrs:=Tryz.results57) (hv:=?_) (hφ:=?_))
      ·rfl
      ·trivial
     |true=>
      have hT2:T= !(colAt cols key).null:=by rw[hT',v1,v2,v3,v4];rfl
      clear hT'
      obtain⟨m,rfl⟩:∃ m:Nat,key=m:=⟨key.toNat,by simp at v3;omega⟩
      have hm:m<cols.length:=by simp at v4;omega
      rw[colAt_nat hm]at hT2
      have hci:cols[m]? =some cols[m]:=List.getElem?_eq_getElem hm
      have hx:(cols.map coV)[m]? =some (coV cols[m]):=by rw[List.getElem?_map,hci];rfl
      have hn1:m<(cols.map coV).length:=by omega
      refine ok_learn (VwIn.base (VwIn.there (VwIn.here hv)) (by intro e;rw[e]at hn1;simp at hn1)) ?_
      rintro⟨bu,ou,rfl⟩
      generalize cols[m]=c at hx hT2
      obtain⟨cn,ck,cb⟩:=c
      dsimp only[coV]at hx hT2
      subst hT2
      repeat'(first|(refine gY ?_;intros)|(refine hY ?_ ?_<;>intro hgd)|(refine jY ?_ ?_<;>intro _)|fail)
      (refine rt_Y (y:=()) (hrs:=Tryz.results57) (hv:=?_) (hφ:=?_))
      ·rfl
      ·trivial
end Go.Proofs.YtmnafjonbeihiaaGreatDoor
namespace Go.Proofs.YtmnafjonbeihiaaGreatDoor
open Go Go.Pl
def belongsR(ahead:Sc)(t:Tc):Bool:=
 if t.ref= -1∨t.par= -1 then decide (t.ref=t.par)
 else if t.ref<0∨(t.cols.length:Int)≤t.ref∨t.ref=t.key∨t.par<0∨(ahead.length:Int)≤t.par then false
 else decide ((colAt t.cols t.ref).kind=(colAt (tabAt ahead t.par).cols (tabAt ahead t.par).key).kind)
def depR(ds:List Int)(t:Tc):Int:=if t.par<0 then 1 else(ds[t.par.toNat]?).getD 0+1
theorem colsR_iff{l:List Co}{key:Int}:colsR l key=true↔((l.any fun c=>decide (c.kind<1)||decide (5<c.kind))=false∧¬ (l.length<1∨8<l.length∨namedS (l.map (·.name))=false∨hasC l key=false∨(colAt l key).null=true)):=by
 have e1:(l.all okC=true∧(l.map (·.name)).Nodup)↔((l.any fun c=>decide (c.kind<1)||decide (5<c.kind))=false∧namedS (l.map (·.name))=true):=by
  unfold namedS
  rw[Bool.and_eq_true,decide_eq_true_eq,List.all_eq_true,List.any_eq_false,List.all_map,List.all_eq_true]
  constructor
  ·rintro⟨h1,h2⟩
   refine⟨fun c hc=>?_,fun c hc=>?_,h2⟩
   ·have:=h1 c hc
    simp only[okC,Bool.and_eq_true,Bool.not_eq_true',decide_eq_false_iff_not]at this
    simp only[Bool.or_eq_true,decide_eq_true_eq];omega
   ·have:=h1 c hc
    simp only[okC,Bool.and_eq_true]at this
    exact this.1
  ·rintro⟨h1,h2,h3⟩
   refine⟨fun c hc=>?_,h3⟩
   have a:=h1 c hc
   have b:=h2 c hc
   simp only[Bool.or_eq_true,decide_eq_true_eq]at a
   simp only[okC,Bool.and_eq_true,Bool.not_eq_true',decide_eq_false_iff_not]
   exact⟨b,by omega,by omega⟩
 unfold colsR
 simp only[Bool.and_eq_true,decide_eq_true_eq,Bool.not_eq_true',not_or,hasC,Bool.and_eq_false_iff,decide_eq_false_iff_not]
 rw[e1]
 constructor
 ·rintro⟨⟨a,b⟩,c,d,e,f,g⟩
  exact⟨a,by omega,by omega,by simp[b],by simp[e,f],by simp[g]⟩
 ·rintro⟨a,b,c,d,e,f⟩
  simp only[not_or,Int.not_lt,Classical.not_not]at e
  exact⟨⟨a,by simpa using d⟩,by omega,by omega,by omega,by omega,by simpa using f⟩
theorem tableS_ref(ahead:Sc)(ds:List Int)(t:Tc)(hd:∀ x∈ds,1≤x∧x≤8):
  tableS ahead ds t=if colsR t.cols t.key=true∧belongsR ahead t=true∧depR ds t≤8 then some (depR ds t)else none:=by
 by_cases hc:colsR t.cols t.key=true
 ·obtain⟨h1,h2⟩:=colsR_iff.1 hc
  by_cases h3:t.ref= -1∧t.par= -1
  ·rw[tS_c h1 h2 h3]
   have hb:belongsR ahead t=true:=by unfold belongsR;rw[if_pos (.inl h3.1)];simp[h3.1,h3.2]
   have hp:depR ds t=1:=by unfold depR;rw[if_pos (by omega)]
   rw[if_pos ⟨hc,hb,by omega⟩,hp]
  ·by_cases h4:hasC t.cols t.ref=false∨t.ref=t.key∨t.par<0∨(ahead.length:Int)≤t.par
   ·rw[tS_d h3 h4]
    have hb:belongsR ahead t=false:=by
     unfold belongsR
     split
     ·rename_i h5
      simp only[decide_eq_false_iff_not]
      rcases h5 with h5|h5<;>omega
     ·rw[if_pos]
      rcases h4 with h4|h4
      ·simp only[hasC,Bool.and_eq_false_iff,decide_eq_false_iff_not]at h4
       rcases h4 with h4|h4
       ·exact .inl (by omega)
       ·exact .inr (.inl (by omega))
      ·exact .inr (.inr h4)
    rw[if_neg (by rw[hb];simp)]
   ·rw[tS_e h1 h2 h3 h4]
    simp only[not_or,hasC,Bool.not_eq_false,Bool.and_eq_true,decide_eq_true_eq]at h4
    obtain⟨h5,h6,h7,h8⟩:=h4
    have hp:depR ds t=(ds[t.par.toNat]?).getD 0+1:=by unfold depR;rw[if_neg (by omega)]
    have hb:belongsR ahead t=decide ((colAt t.cols t.ref).kind=(colAt (tabAt ahead t.par).cols (tabAt ahead t.par).key).kind):=by
     unfold belongsR;rw[if_neg (by omega),if_neg (by omega)]
    rw[hp,hb]
    simp only[hc,decide_eq_true_eq,true_and]
    have:((colAt (tabAt ahead t.par).cols (tabAt ahead t.par).key).kind=(colAt t.cols t.ref).kind)↔((colAt t.cols t.ref).kind=(colAt (tabAt ahead t.par).cols (tabAt ahead t.par).key).kind):=⟨Eq.symm,Eq.symm⟩
    simp only[this]
 ·rw[if_neg (fun h=>hc h.1)]
  by_cases h1:(t.cols.any fun c=>decide (c.kind<1)||decide (5<c.kind))=true
  ·exact tS_a h1
  ·exact tS_b (Classical.byContradiction fun h2=>hc (colsR_iff.2 ⟨by simpa using h1,h2⟩))
end Go.Proofs.YtmnafjonbeihiaaGreatDoor
namespace Go.Proofs.YtmnafjonbeihiaaGreatDoor
open Go Go.Fx Go.Proofs Go.Pl
set_option maxHeartbeats 4000000 in
theorem rBelongs_spec(vs:Value)(ts:List Tb)(i:Nat)(t:Tb)(A:HProp)(hvc:vs.oneCell'=true)(h:SV A vs ts)(hi:ts[i]? =some t)(hah:∀ x∈ts.take i,TabOk x.c):
  FSpec Tryz.prog 58 [.agg #[vs],.int .i64 i] [A] Unit (fun _=>True) (fun _=>.bool (belongsR ((ts.take i).map Tb.c) t.c)) (fun _=>[A]):=by
 obtain⟨hvw,htab,hlen,_⟩:=h
 have hil:i<ts.length:=(List.getElem?_eq_some_iff.1 hi).1
 have htin:t∈ts:=List.mem_of_getElem? hi
 have hx:(ts.map tbV)[i]? =some (tbV t):=by rw[List.getElem?_map,hi];rfl
 have hlm:(ts.map tbV).length=ts.length:=by simp
 have hn1:i<(ts.map tbV).length:=by omega
 have hal:(((ts.take i).map Tb.c).length:Int)=i:=by rw[List.length_map,List.length_take];omega
 obtain⟨hv,hlen2,hnm,hcnm⟩:=htab _ htin
 have hpar:∀ m:Nat,m<i→∃ p:Tb,ts[m]? =some p∧tabAt ((ts.take i).map Tb.c) (m:Int)=p.c∧TabOk p.c∧p∈ts:=fun m hm=>by
  have e:ts[m]? =some (ts[m]'(by omega)):=List.getElem?_eq_getElem _
  have e2:(ts.take i)[m]? =some (ts[m]'(by omega)):=by rw[List.getElem?_take,if_pos hm];exact e
  exact⟨_,e,tabAt_nat (by rw[List.getElem?_map,e2];rfl),hah _ (List.mem_of_getElem? e2),List.getElem_mem _⟩
 generalize hT:belongsR ((ts.take i).map Tb.c) t.c=T
 obtain⟨tn,cols,⟨cv,hcv⟩,key,ref,par⟩:=t
 dsimp only[tbV,Tb.c]at hv hlen2 hnm hcnm hx hT ⊢
 unfold belongsR at hT
 dsimp only at hT
 rw[hal]at hT
 generalize hah':(ts.take i).map Tb.c=ah at hT hpar hal
 have hlc:(cols.map coV).length=cols.length:=by simp
 refine spec_intro [] _ Tryz.func58 rfl Tryz.ntmps58 (by rfl) (fun w0 R=>?_)
 refine ok_learn (VwIn.slice (VwIn.here hvw)) ?_
 rintro⟨pv,cvv,rfl⟩
 refine ok_learn (VwIn.base (VwIn.here hvw) (by intro e;rw[e]at hn1;simp at hn1)) ?_
 rintro⟨bu,ou,rfl⟩
 refine ok_learn (VwIn.slice (VwIn.here hv)) ?_
 rintro⟨pc,cc,rfl⟩
 cases u1:decide (ref= -1)with
 |true=>
  obtain rfl:decide (ref=par)=T:=by rw[if_pos (.inl (of_decide_eq_true u1))]at hT;exact hT
  clear hT
  repeat'(first|(refine gY ?_;intros)|(refine hY ?_ ?_<;>intro hgd)|(refine jY ?_ ?_<;>intro _)|fail)
  (refine rt_Y (y:=()) (hrs:=Tryz.results58) (hv:=?_) (hφ:=?_))
  ·rfl
  ·trivial
 |false=>
  cases u2:decide (par= -1)with
  |true=>
   obtain rfl:decide (ref=par)=T:=by rw[if_pos (.inr (of_decide_eq_true u2))]at hT;exact hT
   clear hT
   repeat'(first|(refine gY ?_;intros)|(refine hY ?_ ?_<;>intro hgd)|(refine jY ?_ ?_<;>intro _)|fail)
   (refine rt_Y (y:=()) (hrs:=Tryz.results58) (hv:=?_) (hφ:=?_))
   ·rfl
   ·trivial
  |false=>
   have hnn:¬ (ref= -1∨par= -1):=by rw[not_or];exact⟨of_decide_eq_false u1,of_decide_eq_false u2⟩
   rw[if_neg hnn]at hT
   by_cases hb:(ref<0∨(cols.length:Int)≤ref∨ref=key∨par<0∨(i:Int)≤par)
   ·rw[if_pos hb]at hT
    subst hT
    cases v1:decide (ref<(0:Int))<;>cases v2:decide (((cols.map coV).length:Int)≤ref)<;>cases v3:decide (ref=key)<;>cases v4:decide (par<(0:Int))<;>cases v5:decide ((i:Int)≤par)
    ·exfalso;simp only[decide_eq_false_iff_not]at v1 v2 v3 v4 v5;omega
    all_goals clear hb hnn
    all_goals repeat'(first|(refine gY ?_;intros)|(refine hY ?_ ?_<;>intro hgd)|(refine jY ?_ ?_<;>intro _)|fail)
    all_goals
     (refine rt_Y (y:=()) (hrs:=Tryz.results58) (hv:=?_) (hφ:=?_))
     ·rfl
     ·trivial
   ·rw[if_neg hb]at hT
    simp only[not_or]at hb
    obtain⟨b1,b2,b3,b4,b5⟩:=hb
    have v1:decide (ref<(0:Int))=false:=by simpa using b1
    have v2:decide (((cols.map coV).length:Int)≤ref)=false:=by rw[hlc];simpa using b2
    have v3:decide (ref=key)=false:=by simpa using b3
    have v4:decide (par<(0:Int))=false:=by simpa using b4
    have v5:decide ((i:Int)≤par)=false:=by simpa using b5
    obtain⟨m,rfl⟩:∃ m:Nat,ref=m:=⟨ref.toNat,by omega⟩
    obtain⟨q,rfl⟩:∃ q:Nat,par=q:=⟨par.toNat,by omega⟩
    obtain⟨p,hp,hpt,hpo,hpin⟩:=hpar q (by omega)
    have hxp:(ts.map tbV)[q]? =some (tbV p):=by rw[List.getElem?_map,hp];rfl
    have hn2:q<(ts.map tbV).length:=by omega
    have hm:m<cols.length:=by omega
    have hci:cols[m]? =some cols[m]:=List.getElem?_eq_getElem hm
    have hxm:(cols.map coV)[m]? =some (coV cols[m]):=by rw[List.getElem?_map,hci];rfl
    have hn3:m<(cols.map coV).length:=by omega
    rw[hpt,colAt_nat hm]at hT
    obtain⟨hvp,_,_,_⟩:=htab _ hpin
    have k0:=hpo.key0
    have k1:=hpo.keyL
    obtain⟨pn,pcols,⟨pcv,hpcv⟩,pkey,pref,ppar⟩:=p
    dsimp only[tbV,Tb.c]at hvp k0 k1 hxp hT
    obtain⟨kk,rfl⟩:∃ kk:Nat,pkey=kk:=⟨pkey.toNat,by omega⟩
    have hkk:kk<pcols.length:=by omega
    have hck:pcols[kk]? =some pcols[kk]:=List.getElem?_eq_getElem hkk
    have hxk:(pcols.map coV)[kk]? =some (coV pcols[kk]):=by rw[List.getElem?_map,hck];rfl
    have hlp:(pcols.map coV).length=pcols.length:=by simp
    have hn4:kk<(pcols.map coV).length:=by omega
    replace hT:decide ((cols[m]).kind=(pcols[kk]).kind)=T:=by rw[← colAt_nat hkk];exact hT
    refine ok_learn (VwIn.slice (VwIn.here hvp)) ?_
    rintro⟨pp,cp,rfl⟩
    refine ok_learn (VwIn.base (VwIn.here hvp) (by intro e;rw[e]at hn4;simp at hn4)) ?_
    rintro⟨b7,o7,rfl⟩
    refine ok_learn (VwIn.base (VwIn.here hv) (by intro e;rw[e]at hn3;simp at hn3)) ?_
    rintro⟨b8,o8,rfl⟩
    generalize cols[m]=c1 at hxm hT
    generalize pcols[kk]=c2 at hxk hT
    obtain⟨n1,k1',z1⟩:=c1
    obtain⟨n2,k2',z2⟩:=c2
    dsimp only[coV]at hxm hxk hT
    subst hT
    repeat'(first|(refine gY ?_;intros)|(refine hY ?_ ?_<;>intro hgd)|(refine jY ?_ ?_<;>intro _)|fail)
    (refine rt_Y (y:=()) (hrs:=Tryz.results58) (hv:=?_) (hφ:=?_))
    ·rfl
    ·trivial
end Go.Proofs.YtmnafjonbeihiaaGreatDoor
