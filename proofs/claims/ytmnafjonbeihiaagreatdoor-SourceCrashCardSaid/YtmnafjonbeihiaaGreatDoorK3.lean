/- Texts merged: H37 G28. -/
import Derived.Test.YtmnafjonbeihiaaGreatDoorG4
import Derived.Test.YtmnafjonbeihiaaGreatDoorG8
import Derived.Test.YtmnafjonbeihiaaGreatDoorK2
import Derived.Test.YtmnafjonbeihiaaGreatDoorG27
import Derived.Test.YtmnafjonbeihiaaGreatDoorH36
/- Texts merged: RwA TgA. -/
set_option linter.unusedSimpArgs false
set_option linter.unusedVariables false
namespace Go.Proofs.YtmnafjonbeihiaaGreatDoor
open Go Go.Fx Go.Proofs Go.Pl
abbrev Rw:=V1s×List Vl
def rwV(x:Rw):List Value:=[x.1.1]
end Go.Proofs.YtmnafjonbeihiaaGreatDoor
set_option maxRecDepth 100000
set_option pp.deepTerms true
set_option pp.maxSteps 200000
namespace Go.Proofs.YtmnafjonbeihiaaGreatDoor
open Go Go.Fx Go.Proofs Go.Pl
theorem doOp_s{r:Rl}(o:Opr):(r.doOp o).1.s=r.s:=by
 rcases doOp_did r o with⟨_,e,_⟩|⟨_,p,d⟩
 ·rw[e]
 ·exact d.s
abbrev GT(P1:HProp):={g:Nat×Tx×HProp // g.2.1.Ok∧g.2.1.over=false∧g.2.1.l.length≤g.1∧Ext P1 g.2.2}
theorem depR_pos{ds:List Int}{t:Tc}(hd:∀ x∈ds,1≤x∧x≤8):1≤depR ds t∧depR ds t≤9:=by
 unfold depR
 split
 ·omega
 ·cases hg:ds[t.par.toNat]? with
  |none=>simp
  |some x=>have:=hd x (List.mem_of_getElem? hg);simp;omega
set_option maxHeartbeats 4000000 in
theorem rDepth_spec(vs:Value)(ts:List Tb)(ds:List Int)(i:Nat)(t:Tb)(A:HProp)(hvc:vs.oneCell'=true)(h:SV A vs ts)(hi:ts[i]? =some t)(hd:∀ x∈ds,1≤x∧x≤8)
  (ht:t.par<(i:Int))(hpd:∀ (j:Nat) (p:Tb),j<i→ts[j]? =some p→p.par<(j:Int)∧ds[j]? =some (depR ds p.c)):
  FSpec Tryz.prog 59 [.agg #[vs],.int .i64 i] [A] Unit (fun _=>True) (fun _=>.int .i64 (depR ds t.c)) (fun _=>[A]):=by
 obtain⟨hvw,htab,hlen,_⟩:=h
 have hil:i<ts.length:=(List.getElem?_eq_some_iff.1 hi).1
 have hlm:(ts.map tbV).length=ts.length:=by simp
 have hn1:0<(ts.map tbV).length:=by omega
 refine spec_intro [] _ Tryz.func59 rfl Tryz.ntmps59 (by rfl) (fun w0 R=>?_)
 refine ok_learn (VwIn.slice (VwIn.here hvw)) ?_
 rintro⟨pv,cvv,rfl⟩
 refine ok_learn (VwIn.base (VwIn.here hvw) (by intro e;rw[e]at hn1;simp at hn1)) ?_
 rintro⟨bu,ou,rfl⟩
 repeat'(first|(refine gY ?_;intros)|(refine hY ?_ ?_<;>intro hgd)|(refine jY ?_ ?_<;>intro _)|fail)
 rename_i b2
 refine ok_map (L':=[pts b2 (.cells [.slice (some ⟨bu,ou,none⟩) (ts.map tbV).length cvv].toArray 29),A]++R) entD ?_
 refine ok_loop' (γ:=Nat×Nat) (fun g ρ L=>g.1≤i∧1≤g.2∧(∃ p:Tb,ts[g.1]? =some p∧p.par<(g.1:Int)∧(g.2:Int)+depR ds p.c=1+depR ds t.c)∧
   Knows ρ [(1,.int .i64 g.1),(2,.pointer (some ⟨b2,0,none⟩)),(5,.int .i64 g.2)]∧
   L=[pts b2 (.cells [.slice (some ⟨bu,ou,none⟩) (ts.map tbV).length cvv].toArray 29),A]++R) (fun g=>g.1)
  (i,1) ⟨by simp,by simp,⟨t,hi,ht,by simp⟩,⟨rfl,rfl,rfl,trivial⟩,rfl⟩ ?_
 rintro⟨j,n⟩ ρ L ⟨hj,hn,⟨p,hp,hpj,hs⟩,hk,rfl⟩
 dsimp only at hj hn hp hpj hs hk ⊢
 refine ok_regs hk ?_
 have b1:=depR_pos (t:=t.c) hd
 have b3:=depR_pos (t:=p.c) hd
 have hnb:n≤9:=by omega
 have hx:(ts.map tbV)[j]? =some (tbV p):=by rw[List.getElem?_map,hp];rfl
 have hnj:j<(ts.map tbV).length:=by omega
 cases v1:decide ((0:Int)≤p.par)with
 |false=>
  have he:depR ds p.c=1:=by unfold depR;rw[if_pos (by have:=of_decide_eq_false v1;show p.par<0;omega)]
  have hr:depR ds t.c=(n:Int):=by omega
  rw[hr]
  obtain⟨pn,pcols,⟨pcv,hpcv⟩,pkey,pref,ppar⟩:=p
  dsimp only[tbV]at hx v1
  repeat'(first|(refine gY ?_;intros)|(refine hY ?_ ?_<;>intro hgd)|(refine jY ?_ ?_<;>intro _)|fail)
  (refine rt_Y (y:=()) (hrs:=Tryz.results59) (hv:=?_) (hφ:=?_))
  ·rfl
  ·trivial
 |true=>
  obtain⟨m,hm⟩:∃ m:Nat,p.par=m:=⟨p.par.toNat,by have:=of_decide_eq_true v1;omega⟩
  have hmj:m<j:=by omega
  have hq:ts[m]? =some (ts[m]'(by omega)):=List.getElem?_eq_getElem _
  obtain⟨hq1,hq2⟩:=hpd m _ (by omega) hq
  have he:depR ds p.c=depR ds (ts[m]'(by omega)).c+1:=by
   have e:p.c.par=(m:Int):=hm
   rw[show depR ds p.c=(ds[p.c.par.toNat]?).getD 0+1 by unfold depR;rw[if_neg (by omega)],e,Int.toNat_natCast,hq2];rfl
  obtain⟨pn,pcols,⟨pcv,hpcv⟩,pkey,pref,ppar⟩:=p
  dsimp only[tbV]at hx v1 hm
  subst hm
  repeat'(first|(refine gY ?_;intros)|(refine hY ?_ ?_<;>intro hgd)|(refine jY ?_ ?_<;>intro _)|fail)
  refine cont_map (L':=[pts b2 (.cells [.slice (some ⟨bu,ou,none⟩) (ts.map tbV).length cvv].toArray 29),A]++R) entD ?_
  refine cont_back (m,n+1) ⟨by dsimp only;omega,by dsimp only;omega,⟨_,hq,hq1,by dsimp only;omega⟩,⟨rfl,rfl,rfl,trivial⟩,rfl⟩ (by show m<j;omega)
theorem belongsR_par{ahead:Sc}{t:Tc}(h:belongsR ahead t=true):t.par<(ahead.length:Int):=by
 unfold belongsR at h
 split at h
 ·have:=of_decide_eq_true h;omega
 ·split at h
  ·cases h
  ·omega
theorem checkS_names{s:Sc}(h:namedS (s.map (·.name))=false):checkS s=false:=by
 unfold checkS depthsS
 split
 ·rfl
 ·split
  ·rfl
  ·rw[if_neg (by rw[h];decide)];rfl
theorem namedS_no{l:List BA}{s:BA}(h:s∈l)(hn:nameS s=false):namedS l=false:=by
 unfold namedS
 rw[show l.all nameS=false from List.all_eq_false.2 ⟨s,h,by simp[hn]⟩,Bool.false_and]
structure UpTo(ts:List Tb)(i:Nat)(ds:List Int):Prop where
 go:goD [] [] (ts.map Tb.c)=goD ((ts.take i).map Tb.c) ds ((ts.drop i).map Tb.c)
 ok:AheadOk ((ts.take i).map Tb.c) ds
 pd:∀ (j:Nat) (p:Tb),j<i→ts[j]? =some p→p.par<(j:Int)∧ds[j]? =some (depR ds p.c)
 nm:((ts.take i).map (·.name)).all nameS=true
 nd:((ts.take i).map (·.name)).Nodup
theorem UpTo.step{ts:List Tb}{i:Nat}{ds:List Int}{t:Tb}(h:UpTo ts i ds)(hi:i<ts.length)(ht:ts[i]? =some t)(hn:nameS t.name=true)(hc:colsR t.cols t.key=true)(hb:belongsR ((ts.take i).map Tb.c) t.c=true)(hd:depR ds t.c≤8)
  (hno:t.name∉(ts.take i).map (·.name)):UpTo ts (i+1) (ds++[depR ds t.c]):=by
 obtain⟨hi',rfl⟩:=List.getElem?_eq_some_iff.1 ht
 have htk:ts.take (i+1)=ts.take i++[ts[i]]:=List.take_succ_eq_append_getElem hi
 have hdr:ts.drop i=ts[i]::ts.drop (i+1):=List.drop_eq_getElem_cons hi
 have hlen:ds.length=i:=by rw[h.ok.len,List.length_map,List.length_take];omega
 have htS:tableS ((ts.take i).map Tb.c) ds ts[i].c=some (depR ds ts[i].c):=by
  rw[tableS_ref _ _ _ h.ok.dep,if_pos ⟨hc,hb,hd⟩]
 have hpar:ts[i].par<(i:Int):=by
  have:=belongsR_par hb
  rw[List.length_map,List.length_take]at this
  have e:ts[i].c.par=ts[i].par:=rfl
  omega
 have hst:∀ (p:Tb),p.par<(i:Int)→depR (ds++[depR ds ts[i].c]) p.c=depR ds p.c:=fun p hp=>by
  have e:p.c.par=p.par:=rfl
  unfold depR
  rw[e]
  split
  ·rfl
  ·rw[List.getElem?_append_left (by omega)]
 refine⟨?_,?_,fun j p hj hp=>?_,?_,?_⟩
 ·rw[h.go,hdr,List.map_cons,goD_step htS,htk,List.map_append];rfl
 ·rw[htk,List.map_append];exact h.ok.snoc htS
 ·by_cases hji:j<i
  ·obtain⟨a,b⟩:=h.pd j p hji hp
   refine⟨a,?_⟩
   rw[hst p (by omega),List.getElem?_append_left (by omega)]
   exact b
  ·obtain rfl:j=i:=by omega
   obtain rfl:ts[j]=p:=Option.some.inj ((List.getElem?_eq_getElem hi).symm.trans hp)
   refine⟨hpar,?_⟩
   rw[hst _ hpar,List.getElem?_append_right (by omega),hlen,Nat.sub_self];rfl
 ·rw[htk,List.map_append,List.all_append,h.nm];simp[hn]
 ·rw[htk,List.map_append,List.nodup_append]
  exact⟨h.nd,by simp,fun a ha b hb e=>by rw[List.map_cons,List.map_nil,List.mem_singleton]at hb;subst hb;subst e;exact hno ha⟩
theorem UpTo.bad{ts:List Tb}{i:Nat}{ds:List Int}{t:Tb}(h:UpTo ts i ds)(hi:i<ts.length)(ht:ts[i]? =some t)(hc:¬ (colsR t.cols t.key=true∧belongsR ((ts.take i).map Tb.c) t.c=true∧depR ds t.c≤8)):checkS (ts.map Tb.c)=false:=by
 obtain⟨hi',rfl⟩:=List.getElem?_eq_some_iff.1 ht
 have hdr:ts.drop i=ts[i]::ts.drop (i+1):=List.drop_eq_getElem_cons hi
 have htS:tableS ((ts.take i).map Tb.c) ds ts[i].c=none:=by
  rw[tableS_ref _ _ _ h.ok.dep];exact if_neg hc
 exact checkS_none (by rw[h.go,hdr,List.map_cons,goD_none htS])
theorem UpTo.all{ts:List Tb}{ds:List Int}(h:UpTo ts ts.length ds)(h1:1≤ts.length)(h2:ts.length≤12):checkS (ts.map Tb.c)=true:=by
 have hg:=h.go
 rw[List.take_length,List.drop_length]at hg
 rw[checkS_some (ds:=ds) (hg.trans rfl) (by simpa using h1) (by simpa using h2),List.map_map]
 have hn:=h.nm
 have hd:=h.nd
 rw[List.take_length]at hn hd
 have e:(ts.map ((fun x:Tc=>x.name) ∘ Tb.c))=ts.map (·.name):=rfl
 unfold namedS
 rw[e,hn,Bool.true_and]
 exact decide_eq_true hd
theorem UpTo.zero{ts:List Tb}:UpTo ts 0 []:=⟨rfl,⟨rfl,fun _ h=>by simp at h,fun _ h=>by simp at h⟩,fun _ _ h=>by omega,rfl,by simp⟩
set_option maxHeartbeats 8000000 in
theorem rMay_spec(vs:Value)(ts:List Tb)(A:HProp)(hvc:vs.oneCell'=true)(h:SV A vs ts):
  FSpec Tryz.prog 20 [.agg #[vs]] [A] Unit (fun _=>True) (fun _=>.bool (checkS (ts.map Tb.c))) (fun _=>[A]):=by
 have hS:=h
 obtain⟨hvw,htab,hlen,_⟩:=h
 have hlm:(ts.map tbV).length=ts.length:=by simp
 generalize hT:checkS (ts.map Tb.c)=T
 refine spec_intro [] _ Tryz.func20 rfl Tryz.ntmps20 (by rfl) (fun w0 R=>?_)
 refine ok_learn (VwIn.slice (VwIn.here hvw)) ?_
 rintro⟨pv,cvv,rfl⟩
 cases n1:decide (((ts.map tbV).length:Int)<1)with
 |true=>
  obtain rfl:T=false:=by
   rw[← hT]
   unfold checkS depthsS
   rw[if_pos (.inl (by have:=of_decide_eq_true n1;rw[List.length_map];omega))];rfl
  repeat'(first|(refine gY ?_;intros)|(refine hY ?_ ?_<;>intro hgd)|(refine jY ?_ ?_<;>intro _)|fail)
  (refine rt_Y (y:=()) (hrs:=Tryz.results20) (hv:=?_) (hφ:=?_))
  ·rfl
  ·trivial
 |false=>
 cases n2:decide ((12:Int)<((ts.map tbV).length:Int))with
 |true=>
  obtain rfl:T=false:=by
   rw[← hT]
   unfold checkS depthsS
   rw[if_pos (.inr (by have:=of_decide_eq_true n2;rw[List.length_map];omega))];rfl
  repeat'(first|(refine gY ?_;intros)|(refine hY ?_ ?_<;>intro hgd)|(refine jY ?_ ?_<;>intro _)|fail)
  (refine rt_Y (y:=()) (hrs:=Tryz.results20) (hv:=?_) (hφ:=?_))
  ·rfl
  ·trivial
 |false=>
  have l1:1≤ts.length:=by have:=of_decide_eq_false n1;omega
  have l2:ts.length≤12:=by have:=of_decide_eq_false n2;omega
  repeat'(first|(refine gY ?_;intros)|(refine hY ?_ ?_<;>intro hgd)|(refine jY ?_ ?_<;>intro _)|fail)
  rename_i b1
  refine ok_map (L':=[pts b1 (.cells [.slice pv (ts.map tbV).length cvv].toArray 29),A]++R) entD ?_
  refine ok_loop' (γ:=Nat×{ds:List Int // True}) (fun g ρ L=>g.1≤ts.length∧UpTo ts g.1 g.2.1∧Knows ρ [(1,.pointer (some ⟨b1,0,none⟩)),(3,.int .i64 g.1)]∧L=[pts b1 (.cells [.slice pv (ts.map tbV).length cvv].toArray 29),A]++R) (fun g=>ts.length-g.1)
   (0,⟨[],trivial⟩) ⟨by simp,UpTo.zero,⟨rfl,rfl,trivial⟩,rfl⟩ ?_
  rintro⟨i,⟨ds,_⟩⟩ ρ L ⟨hi,hu,hk,rfl⟩
  dsimp only at hi hu hk ⊢
  refine ok_regs hk ?_
  cases t1:decide ((i:Int)<((ts.map tbV).length:Int))with
  |false=>
   have hie:i=ts.length:=by have:=of_decide_eq_false t1;omega
   subst hie
   obtain rfl:T=true:=by rw[← hT];exact hu.all l1 l2
   repeat'(first|(refine gY ?_;intros)|(refine hY ?_ ?_<;>intro hgd)|(refine jY ?_ ?_<;>intro _)|fail)
   (refine rt_Y (y:=()) (hrs:=Tryz.results20) (hv:=?_) (hφ:=?_))
   ·rfl
   ·trivial
  |true=>
   have h0:i<ts.length:=by have:=of_decide_eq_true t1;omega
   have hti:ts[i]? =some ts[i]:=List.getElem?_eq_getElem h0
   have hx:(ts.map tbV)[i]? =some (tbV ts[i]):=by rw[List.getElem?_map,hti];rfl
   have hn1:i<(ts.map tbV).length:=by omega
   have hin:=List.getElem_mem h0
   have hto:=htab _ hin
   have hah:∀ x∈ts.take i,TabOk x.c:=fun x hx=>hu.ok.tab _ (List.mem_map_of_mem hx)
   have hbs:=rBelongs_spec (.slice pv (ts.map tbV).length cvv) ts i ts[i] A hvc hS hti hah
   have hds:=fun(ht:ts[i].par<(i:Int))=>rDepth_spec (.slice pv (ts.map tbV).length cvv) ts ds i ts[i] A hvc hS hti hu.ok.dep ht hu.pd
   have hcs:=rCols_spec ts[i] A hto
   have hns:=rName_spec ts[i].name (by have:=hto.nm;omega)
   have hbad:=hu.bad h0 hti
   have hstep:=hu.step h0 hti
   have hnam:nameS ts[i].name=false→T=false:=fun hn=>by
    rw[← hT];exact checkS_names (namedS_no (List.mem_map_of_mem (f:=fun x:Tc=>x.name) (List.mem_map_of_mem (f:=Tb.c) hin)) hn)
   have hdup:ts[i].name∈(ts.take i).map (·.name)→T=false:=fun hm=>by
    rw[← hT]
    refine checkS_names ?_
    have:¬ ((ts.map Tb.c).map (·.name)).Nodup:=fun hd=>by
     rw[List.map_map]at hd
     have hd2:((ts.take (i+1)).map (fun t:Tb=>t.name)).Nodup:=List.Nodup.sublist ((List.take_sublist ..).map _) hd
     rw[List.take_succ_eq_append_getElem h0,List.map_append,List.nodup_append]at hd2
     exact hd2.2.2 _ hm _ (List.mem_singleton.2 rfl) rfl
    unfold namedS;simp only[this,decide_false,Bool.and_false]
   refine ok_learn (VwIn.base (VwIn.there (VwIn.here hvw)) (by intro e;rw[e]at hn1;simp at hn1)) ?_
   rintro⟨bu,ou,rfl⟩
   have hpar:=fun(hb:belongsR ((ts.take i).map Tb.c) ts[i].c=true)=>belongsR_par (ahead:=(ts.take i).map Tb.c) (t:=ts[i].c) hb
   rw[show(((ts.take i).map Tb.c).length:Int)=i by rw[List.length_map,List.length_take];omega]at hpar
   rw[hT]at hbad
   generalize ts[i]=t at hx hto hbs hds hcs hns hbad hstep hnam hdup hpar hti
   obtain⟨tn,cols,⟨cv,hcv⟩,key,ref,par⟩:=t
   dsimp only[tbV,Tb.c]at hx hbs hds hcs hns hbad hstep hnam hdup hpar
   cases a1:nameS tn with
   |false=>
    obtain rfl:=hnam a1
    rw[a1]at hns
    repeat'(first|(refine gY ?_;intros)|(refine hY ?_ ?_<;>intro hgd)|(refine jY ?_ ?_<;>intro _)|fail)
    refine cl_Y (hns) ?_
    intro _ _
    repeat'(first|(refine gY ?_;intros)|(refine hY ?_ ?_<;>intro hgd)|(refine jY ?_ ?_<;>intro _)|fail)
    (refine rt_Y (y:=()) (hrs:=Tryz.results20) (hv:=?_) (hφ:=?_))
    ·rfl
    ·trivial
   |true=>
    rw[a1]at hns
    cases a2:colsR cols key with
    |false=>
     obtain rfl:=hbad (fun c=>by rw[a2]at c;cases c.1)
     rw[a2]at hcs
     repeat'(first|(refine gY ?_;intros)|(refine hY ?_ ?_<;>intro hgd)|(refine jY ?_ ?_<;>intro _)|fail)
     refine cl_Y (hns) ?_
     intro _ _
     repeat'(first|(refine gY ?_;intros)|(refine hY ?_ ?_<;>intro hgd)|(refine jY ?_ ?_<;>intro _)|fail)
     refine cl_Y (hcs) ?_
     intro _ _
     repeat'(first|(refine gY ?_;intros)|(refine hY ?_ ?_<;>intro hgd)|(refine jY ?_ ?_<;>intro _)|fail)
     (refine rt_Y (y:=()) (hrs:=Tryz.results20) (hv:=?_) (hφ:=?_))
     ·rfl
     ·trivial
    |true=>
     rw[a2]at hcs
     cases a3:belongsR ((ts.take i).map Tb.c) ⟨tn,cols,key,ref,par⟩with
     |false=>
      obtain rfl:=hbad (fun c=>by rw[a3]at c;cases c.2.1)
      rw[a3]at hbs
      repeat'(first|(refine gY ?_;intros)|(refine hY ?_ ?_<;>intro hgd)|(refine jY ?_ ?_<;>intro _)|fail)
      refine cl_Y (hns) ?_
      intro _ _
      repeat'(first|(refine gY ?_;intros)|(refine hY ?_ ?_<;>intro hgd)|(refine jY ?_ ?_<;>intro _)|fail)
      refine cl_Y (hcs) ?_
      intro _ _
      repeat'(first|(refine gY ?_;intros)|(refine hY ?_ ?_<;>intro hgd)|(refine jY ?_ ?_<;>intro _)|fail)
      refine cl_Y (hbs) ?_
      intro _ _
      repeat'(first|(refine gY ?_;intros)|(refine hY ?_ ?_<;>intro hgd)|(refine jY ?_ ?_<;>intro _)|fail)
      (refine rt_Y (y:=()) (hrs:=Tryz.results20) (hv:=?_) (hφ:=?_))
      ·rfl
      ·trivial
     |true=>
      rw[a3]at hbs
      have hds:=hds (hpar a3)
      generalize depR ds ⟨tn,cols,key,ref,par⟩=dd at hds hbad hstep
      cases a4:decide ((8:Int)<dd)with
      |true=>
       obtain rfl:=hbad (fun c=>by have:=of_decide_eq_true a4;omega)
       repeat'(first|(refine gY ?_;intros)|(refine hY ?_ ?_<;>intro hgd)|(refine jY ?_ ?_<;>intro _)|fail)
       refine cl_Y (hns) ?_
       intro _ _
       repeat'(first|(refine gY ?_;intros)|(refine hY ?_ ?_<;>intro hgd)|(refine jY ?_ ?_<;>intro _)|fail)
       refine cl_Y (hcs) ?_
       intro _ _
       repeat'(first|(refine gY ?_;intros)|(refine hY ?_ ?_<;>intro hgd)|(refine jY ?_ ?_<;>intro _)|fail)
       refine cl_Y (hbs) ?_
       intro _ _
       repeat'(first|(refine gY ?_;intros)|(refine hY ?_ ?_<;>intro hgd)|(refine jY ?_ ?_<;>intro _)|fail)
       refine cl_Y (hds) ?_
       intro _ _
       repeat'(first|(refine gY ?_;intros)|(refine hY ?_ ?_<;>intro hgd)|(refine jY ?_ ?_<;>intro _)|fail)
       (refine rt_Y (y:=()) (hrs:=Tryz.results20) (hv:=?_) (hφ:=?_))
       ·rfl
       ·trivial
      |false=>
       have hstep:=hstep a1 a2 a3 (by have:=of_decide_eq_false a4;omega)
       repeat'(first|(refine gY ?_;intros)|(refine hY ?_ ?_<;>intro hgd)|(refine jY ?_ ?_<;>intro _)|fail)
       rename_i b4
       refine cl_Y (hns) ?_
       intro _ _
       repeat'(first|(refine gY ?_;intros)|(refine hY ?_ ?_<;>intro hgd)|(refine jY ?_ ?_<;>intro _)|fail)
       refine cl_Y (hcs) ?_
       intro _ _
       repeat'(first|(refine gY ?_;intros)|(refine hY ?_ ?_<;>intro hgd)|(refine jY ?_ ?_<;>intro _)|fail)
       refine cl_Y (hbs) ?_
       intro _ _
       repeat'(first|(refine gY ?_;intros)|(refine hY ?_ ?_<;>intro hgd)|(refine jY ?_ ?_<;>intro _)|fail)
       refine cl_Y (hds) ?_
       intro _ _
       repeat'(first|(refine gY ?_;intros)|(refine hY ?_ ?_<;>intro hgd)|(refine jY ?_ ?_<;>intro _)|fail)
       refine ok_map (L':=[pts b4 (.cells [.string tn,cv,.int .i64 key,.int .i64 ref,.int .i64 par].toArray 111),pts b1 (.cells [.slice (some ⟨bu,ou,none⟩) (ts.map tbV).length cvv].toArray 29),A]++R) entD ?_
       refine ok_loop' (γ:=Nat) (fun k ρ L=>k≤i∧tn∉(ts.take k).map (·.name)∧
         Knows ρ [(1,.pointer (some ⟨b1,0,none⟩)),(3,.int .i64 i),(4,.pointer (some ⟨b4,0,none⟩)),(5,.int .i64 k)]∧L=[pts b4 (.cells [.string tn,cv,.int .i64 key,.int .i64 ref,.int .i64 par].toArray 111),pts b1 (.cells [.slice (some ⟨bu,ou,none⟩) (ts.map tbV).length cvv].toArray 29),A]++R) (fun k=>i-k)
        0 ⟨by omega,by simp,⟨rfl,rfl,rfl,rfl,trivial⟩,rfl⟩ ?_
       rintro k ρ L ⟨hk1,hno,hk,rfl⟩
       refine ok_regs hk ?_
       cases t2:decide ((k:Int)<(i:Int))with
       |false=>
        have hke:k=i:=by have:=of_decide_eq_false t2;omega
        subst hke
        repeat'(first|(refine gY ?_;intros)|(refine hY ?_ ?_<;>intro hgd)|(refine jY ?_ ?_<;>intro _)|fail)
        refine cont_map (L':=[pts b1 (.cells [.slice (some ⟨bu,ou,none⟩) (ts.map tbV).length cvv].toArray 29),A]++R) entD ?_
        refine cont_back (k+1,⟨_,trivial⟩) ⟨h0,hstep hno,⟨rfl,rfl,trivial⟩,rfl⟩ (by show ts.length-(k+1)<ts.length-k;omega)
       |true=>
        have h2:k<i:=by have:=of_decide_eq_true t2;omega
        have hck:ts[k]? =some (ts[k]'(by omega)):=List.getElem?_eq_getElem _
        have hy:(ts.map tbV)[k]? =some (tbV (ts[k]'(by omega))):=by rw[List.getElem?_map,hck];rfl
        have hn2:k<(ts.map tbV).length:=by omega
        have htk2:ts.take (k+1)=ts.take k++[ts[k]'(by omega)]:=List.take_succ_eq_append_getElem _
        have hmi:(ts[k]'(by omega))∈ts.take i:=List.mem_of_getElem? (by rw[List.getElem?_take,if_pos h2];exact hck)
        generalize (ts[k]'(by omega))=d at hy htk2 hmi
        obtain⟨dn,dcols,⟨dcv,hdcv⟩,dkey,dref,dpar⟩:=d
        dsimp only[tbV]at hy
        by_cases he:dn=tn
        ·subst he
         obtain rfl:T=false:=hdup (List.mem_map_of_mem (f:=fun x:Tb=>x.name) hmi)
         have e1:(dn.toList==dn.toList)=true:=beq_self_eq_true _
         repeat'(first|(refine gY ?_;intros)|(refine hY ?_ ?_<;>intro hgd)|(refine jY ?_ ?_<;>intro _)|fail)
         (refine rt_Y (y:=()) (hrs:=Tryz.results20) (hv:=?_) (hφ:=?_))
         ·rfl
         ·trivial
        ·have e1:=ba_ne he
         repeat'(first|(refine gY ?_;intros)|(refine hY ?_ ?_<;>intro hgd)|(refine jY ?_ ?_<;>intro _)|fail)
         refine cont_map (L':=[pts b4 (.cells [.string tn,cv,.int .i64 key,.int .i64 ref,.int .i64 par].toArray 111),pts b1 (.cells [.slice (some ⟨bu,ou,none⟩) (ts.map tbV).length cvv].toArray 29),A]++R) entD ?_
         refine cont_back (k+1) ⟨h2,by rw[htk2,List.map_append,List.mem_append,not_or];exact⟨hno,by rw[List.map_cons,List.map_nil,List.mem_singleton];exact fun e=>he e.symm⟩,⟨rfl,rfl,rfl,rfl,trivial⟩,rfl⟩ (by omega)
end Go.Proofs.YtmnafjonbeihiaaGreatDoor
