/- Texts merged: SuM G33. -/
import Derived.Test.YtmnafjonbeihiaaGreatDoorG32
import Derived.Test.YtmnafjonbeihiaaGreatDoorK2
import Derived.Test.YtmnafjonbeihiaaGreatDoorG31
import Derived.Test.YtmnafjonbeihiaaGreatDoorK3
import Derived.Test.YtmnafjonbeihiaaGreatDoorK9
set_option linter.unusedSimpArgs false
set_option linter.unusedVariables false
set_option maxRecDepth 100000
namespace Go.Proofs.YtmnafjonbeihiaaGreatDoor
open Go Go.Fx Go.Proofs Go.Pl
theorem opP_ext{P P':HProp}(a:Ext P P'){rb tb:Nat}{t:Option Tx}{L:List HProp}{h:Frag}(s:SatL (opP P rb tb t::L) h):SatL (opP P' rb tb t::L) h:=by
 cases t with
 |none=>exact s
 |some x=>exact txP_ext a s
set_option maxHeartbeats 4000000 in
theorem sAt_spec(xb b:Nat)(S:Src)(r:Rl)(n:Nat)(P:HProp)(hU:UT P)(hc:checkS S.r.s=true)(hn:n≤S.l.length)(hfew:S.l.length≤300)(hh:hist ⟨S.r.s,[],0⟩ (S.l.take n)=some r):
  FSpec Tryz.prog 10 [.pointer (some ⟨xb,0,none⟩),.int .u64 (n:Int)] [srP P xb b S,P] (Nat×HProp) (fun y=>Ext P y.2) (fun y=>.tuple #[.pointer (some ⟨y.1,0,none⟩),.int .i64 0])
   (fun y=>[srP y.2 xb b S,relP y.2 y.1 r,y.2]):=by
 refine fspec_ex ?_
 rintro⟨⟨vs,ts,wb,rb,lv,ls,tb⟩,hy⟩
 unfold srL
 dsimp only
 have hvc:=hy.vc
 have hsv:=hy.sv
 have hts:=hy.ts
 have hcm:=hy.cm
 have hl:=hy.l
 dsimp only at hvc hsv hts hcm hl
 have hll:ls.length=S.l.length:=by have:=congrArg List.length hl;rw[List.length_map]at this;exact this
 have htc:(txV17 tb S.t).oneCell'=true:=by cases S.t<;>rfl
 have h:=sAtO xb wb rb vs ts lv ls (txV17 tb S.t) (S.l.take n) r n P hvc htc hU hsv (by rw[hts];exact hc) hcm (by rw[hl]) (by omega) (by omega) (by rw[hts];exact hh)
 refine(fspec_frame' h [walP wb b nC S.w,relP P rb S.r,opP P rb tb S.t]).conseq (fun _=>entD) (fun y hE=>⟨y,hE,rfl,fun R g s=>?_⟩)
 have hy2:SrOK y.2 S ⟨vs,ts,wb,rb,lv,ls,tb⟩:=hy.ext hE
 have s1:=relP_ext hE (b:=rb) (r:=S.r) (Take.out1 (A:=relP P rb S.r) takeD s)
 have s2:=opP_ext hE (rb:=rb) (tb:=tb) (t:=S.t) (Take.out1 (A:=opP P rb tb S.t) takeD s1)
 have s3:=sr_in (P:=y.2) (xb:=xb) (b:=b) hy2 (Take.out takeD s2)
 refine(?_:∀ h,SatL _ h→SatL _ h) g s3
 exact entD
structure Zs where
 d:Int
 o:Om
 n:Int
 m:Int
def zsV(x:Zs):List Value:=[.int .i64 x.d,.int .u8 x.o.kind,.int .i64 x.o.table,x.o.rv.1,.int .i64 x.n,.int .i64 x.m]
structure ZsR(A:HProp)(va:Value)(az:List Zs):Prop where
 vw:Vw A 6 va (az.map zsV)
 op:∀ a∈az,OmR A a.o
 len:az.length≤140737488355328
theorem OmR.ext{P P':HProp}(e:Ext P P'){o:Om}(h:OmR P o):OmR P' o:=⟨e.vw h.vw,h.len,h.txt⟩
def opsUz(az:List Zs)(n:Nat):List Om:=(az.take n).map Zs.o
set_option maxHeartbeats 4000000 in
theorem heavy17_spec(vs va:Value)(ts:List Tb)(az:List Zs)(A:HProp)(h:SVr A vs ts)(ha:ZsR A va az):
  FSpec Tryz.prog 19 [.agg #[vs],va] [A] (Bool×HProp) (fun y=>Ext A y.2∧(y.1=false→smallS ts∧smallO (az.map Zs.o)∧az.length≤150)) (fun y=>.bool y.1) (fun y=>[y.2]):=by
 have hva:=ha.vw
 have hza:=ha.len
 have la:(az.map zsV).length=az.length:=by simp
 refine spec_intro [] _ Tryz.func19 rfl Tryz.ntmps19 (by rfl) (fun w0 R=>?_)
 refine ok_learn (VwIn.slice (VwIn.here hva)) ?_
 rintro⟨pa,ca,rfl⟩
 refine ok_learn (VwIn.slice (VwIn.here h.vw)) ?_
 rintro⟨ps,cs,rfl⟩
 repeat'(first|(refine gY ?_;intros)|(refine hY ?_ ?_<;>intro hgd)|(refine jY ?_ ?_<;>intro _)|fail)
 rename_i b2
 refine ok_map (fun _ h=>nilRow (e:=24) (n:=3) h) ?_
 refine ok_map (L':=[A,row 24 3 (.slice none 0 0) ((opsUz az 0).map opV),pts b2 (.cells [.slice ps (ts.map tbV).length cs].toArray 29)]++R) entD ?_
 refine ok_loop' (γ:=Nat×V1s) (fun g ρ L=>g.1≤az.length∧g.1≤400∧Knows ρ [(1,.slice pa (az.map zsV).length ca),(2,.pointer (some ⟨b2,0,none⟩)),(5,g.2.1),(6,.int .i64 g.1)]∧L=[A,row 24 3 g.2.1 ((opsUz az g.1).map opV),pts b2 (.cells [.slice ps (ts.map tbV).length cs].toArray 29)]++R) (fun g=>az.length-g.1)
  (0,⟨.slice none 0 0,rfl⟩) ⟨by simp,by simp,⟨rfl,rfl,rfl,rfl,trivial⟩,rfl⟩ ?_
 rintro⟨i,⟨v,hv⟩⟩ ρ L ⟨hi,hi4,hk,rfl⟩
 dsimp only at hi hi4 hk ⊢
 refine ok_regs hk ?_
 have hul:(opsUz az i).length=i:=by unfold opsUz;rw[List.length_map,List.length_take];omega
 have hum:((opsUz az i).map opV).length=i:=by rw[List.length_map,hul]
 refine ok_learn (rowShapeS (e:=24) (n:=3) (v:=v) (xs:=(opsUz az i).map opV) (by decide) takeD) ?_
 rintro⟨pv,cv,rfl,hcv,hsv⟩
 cases t1:decide ((i:Int)<((az.map zsV).length:Int))with
 |true=>
  have h0:i<az.length:=by have:=of_decide_eq_true t1;omega
  cases t2:decide ((i:Int)<400)with
  |true=>
   have h4:i<400:=by have:=of_decide_eq_true t2;omega
   have hx:(az.map zsV)[i]? =some (zsV az[i]):=by rw[List.getElem?_map,List.getElem?_eq_getElem h0];rfl
   have hn1:i<(az.map zsV).length:=by omega
   have hst:opsUz az (i+1)=opsUz az i++[az[i].o]:=by unfold opsUz;rw[List.take_succ_eq_append_getElem h0,List.map_append];rfl
   refine ok_learn (VwIn.base (n:=6) (xs:=az.map zsV) (VwIn.here hva) (by intro e;rw[e]at hn1;simp at hn1)) ?_
   rintro⟨bu,ou,rfl⟩
   have hom:=(ha.op _ (List.getElem_mem h0)).vw
   generalize az[i]=x at hx hst hom
   obtain⟨xd,⟨ok,ot,⟨ov,hov⟩,ol⟩,xn,xm⟩:=x
   dsimp only[zsV]at hx hst hom
   refine ok_learn (VwIn.slice (VwIn.here hom)) ?_
   rintro⟨px,cx,rfl⟩
   generalize opsUz az i=acc at hst hul hum hcv hsv ⊢
   repeat'(first|(refine gY ?_;intros)|(refine hY ?_ ?_<;>intro hgd)|(refine jY ?_ ?_<;>intro _)|fail)
   rename_i v1 hv1 v2 hv2
   refine cont_map (L':=[A,row 24 3 v2 ((opsUz az (i+1)).map opV),pts b2 (.cells [.slice ps (ts.map tbV).length cs].toArray 29)]++R) (by rw[hst,List.map_append];exact entD) ?_
   refine cont_back (i+1,⟨v2,hv2⟩) ⟨h0,h4,⟨rfl,rfl,rfl,rfl,trivial⟩,rfl⟩ (by show az.length-(i+1)<az.length-i;omega)
  |false=>
   have h4:i=400:=by have:=of_decide_eq_false t2;omega
   refine ok_poolN (ty:=24) (n:=3) (v:=.slice pv ((opsUz az i).map opV).length cv) (xs:=(opsUz az i).map opV) (P:=A) takeD ?_
   intro Q hE hw
   have hvy:=heavy14_spec (.slice ps (ts.map tbV).length cs) (.slice pv ((opsUz az i).map opV).length cv) ts (opsUz az i) Q (h.ext hE) ⟨hw,fun o ho=>by
    unfold opsUz at ho
    obtain⟨a,ha',rfl⟩:=List.mem_map.1 ho
    exact(ha.op a (List.mem_of_mem_take ha')).ext hE,by omega⟩
   repeat'(first|(refine gY ?_;intros)|(refine hY ?_ ?_<;>intro hgd)|(refine jY ?_ ?_<;>intro _)|fail)
   refine cl_Y (hvy) ?_
   intro y hy
   cases y with
   |true=>
    repeat'(first|(refine gY ?_;intros)|(refine hY ?_ ?_<;>intro hgd)|(refine jY ?_ ?_<;>intro _)|fail)
    (refine rt_Y (y:=(true,Q)) (hrs:=Tryz.results19) (hv:=?_) (hφ:=?_))
    ·rfl
    ·exact⟨hE,fun e=>by cases e⟩
   |false=>
   exfalso
   have:=(hy rfl).2.1
   rw[hul]at this;omega
 |false=>
  have hie:i=az.length:=by have:=of_decide_eq_false t1;omega
  have hall:opsUz az i=az.map Zs.o:=by unfold opsUz;rw[hie,List.take_length]
  refine ok_poolN (ty:=24) (n:=3) (v:=.slice pv ((opsUz az i).map opV).length cv) (xs:=(opsUz az i).map opV) (P:=A) takeD ?_
  intro Q hE hw
  have hvy:=heavy14_spec (.slice ps (ts.map tbV).length cs) (.slice pv ((opsUz az i).map opV).length cv) ts (opsUz az i) Q (h.ext hE) ⟨hw,fun o ho=>by
   unfold opsUz at ho
   obtain⟨a,ha',rfl⟩:=List.mem_map.1 ho
   exact(ha.op a (List.mem_of_mem_take ha')).ext hE,by omega⟩
  repeat'(first|(refine gY ?_;intros)|(refine hY ?_ ?_<;>intro hgd)|(refine jY ?_ ?_<;>intro _)|fail)
  refine cl_Y (hvy) ?_
  intro y hy
  rw[hall]at hy
  cases y with
  |true=>
   repeat'(first|(refine gY ?_;intros)|(refine hY ?_ ?_<;>intro hgd)|(refine jY ?_ ?_<;>intro _)|fail)
   (refine rt_Y (y:=(true,Q)) (hrs:=Tryz.results19) (hv:=?_) (hφ:=?_))
   ·rfl
   ·exact⟨hE,fun e=>by cases e⟩
  |false=>
   cases t3:decide ((150:Int)<((az.map zsV).length:Int))with
   |true=>
    repeat'(first|(refine gY ?_;intros)|(refine hY ?_ ?_<;>intro hgd)|(refine jY ?_ ?_<;>intro _)|fail)
    (refine rt_Y (y:=(true,Q)) (hrs:=Tryz.results19) (hv:=?_) (hφ:=?_))
    ·rw[t3];rfl
    ·exact⟨hE,fun e=>by cases e⟩
   |false=>
    repeat'(first|(refine gY ?_;intros)|(refine hY ?_ ?_<;>intro hgd)|(refine jY ?_ ?_<;>intro _)|fail)
    (refine rt_Y (y:=(false,Q)) (hrs:=Tryz.results19) (hv:=?_) (hφ:=?_))
    ·rw[t3];rfl
    ·exact⟨hE,fun _=>⟨(hy rfl).1,(hy rfl).2,by have:=of_decide_eq_false t3;omega⟩⟩
theorem append_room{d:Dk}{w:Wv}{h:List BA}(g:WGoodC d w h)(l:List BA)(hl:allOk l=true)(hf:d.fuse= -1)(hs:d.still=false)(hr:(fused d.files:Int)+lenT l≤d.room):
  (appendW w d nC l).2.2=0∧(appendW w d nC l).2.1.fuse= -1∧(appendW w d nC l).2.1.still=false:=by
 have hfault:w.fault=0:=by rw[g.wv]
 obtain⟨fi,su,lo,ro,fu,st⟩:=d
 dsimp only at hf hs hr
 subst hf hs
 unfold appendW
 rw[if_neg (by rw[hfault];simp),if_neg (by rw[hl];simp)]
 by_cases h0:l.length=0
 ·rw[if_pos h0];exact⟨rfl,rfl,rfl⟩
 rw[if_neg h0]
 have hroom:((!((framesOf l).toList==[]))&&decide (ro<(fused fi:Int)+(framesOf l).size))=false:=by
  rw[framesOf_size,decide_eq_false (by omega),Bool.and_false]
 have e:Dk.append ⟨fi,su,lo,ro, -1,false⟩ nC (framesOf l)=(⟨(Cl.app nC (framesOf l)).run fi,su,lo++[.app nC (framesOf l)],ro, -1,false⟩,0):=by
  unfold Dk.append
  rw[live1 _ may_nC]
  dsimp only
  rw[hroom,if_neg (by simp),if_neg (by simp)]
  unfold Dk.doC
  dsimp only
  rw[if_neg (by decide)]
  rfl
 rw[e]
 dsimp only
 rw[if_neg (by simp)]
 have e2:Dk.sync ⟨(Cl.app nC (framesOf l)).run fi,su,lo++[.app nC (framesOf l)],ro, -1,false⟩=(Dk.settle ⟨(Cl.app nC (framesOf l)).run fi,su,lo++[.app nC (framesOf l)],ro, -1,false⟩,0):=by
  unfold Dk.sync
  rw[live0]
  dsimp only
  rw[if_neg (by simp),if_neg (by decide)]
  rfl
 rw[e2]
 dsimp only
 rw[if_neg (by simp)]
 exact⟨rfl,rfl,rfl⟩
def dN18:Dk:=(openW (newD 262144) nC).1
theorem dN18_w:(openW (newD 262144) nC).2=(0,[],0):=by decide +kernel
theorem dN18_is:dN18.fuse= -1∧dN18.still=false∧fused dN18.files=0∧dN18.room=262144:=by decide +kernel
theorem dN18_g:WGoodC dN18 ⟨0,0,0⟩ []:=by
 obtain⟨j,e,g⟩:=wal_textC (d:=newD 262144) (.new (by decide) (by decide)) rfl rfl rfl (h:=[]) (l:=[]) (k:=0) rfl rfl (by rw[ext_zero];rfl)
 have ej:([]:List BA)++([]:List BA).take j=[]:=by simp
 rw[ej]at g
 exact g
def fresh(s:Sc):Src:=⟨⟨s,[],0⟩,[],none,(appendW ⟨0,0,0⟩ dN18 nC [putSB s]).1⟩
def freshD(s:Sc):Dk:=(appendW ⟨0,0,0⟩ dN18 nC [putSB s]).2.1
theorem head_ok{s:Sc}(hc:checkS s=true):allOk [putSB s]=true∧lenT [putSB s]≤11413:=by
 have hz:=putSB_size hc
 exact⟨by simp[allOk];omega,by simp[lenT];omega⟩
theorem fresh_e{s:Sc}(hc:checkS s=true):(appendW ⟨0,0,0⟩ dN18 nC [putSB s]).2.2=0∧(freshD s).fuse= -1∧(freshD s).still=false:=by
 obtain⟨h1,h2⟩:=head_ok hc
 obtain⟨a,b,c,e⟩:=dN18_is
 exact append_room dN18_g _ h1 a b (by rw[c,e];omega)
theorem fresh_g{s:Sc}(hc:checkS s=true):WGoodC (freshD s) (fresh s).w [putSB s]:=by
 obtain⟨h1,h2⟩:=head_ok hc
 have he:=(fresh_e hc).1
 rcases append_goodC dN18_g [putSB s] h1 (by omega)with⟨_,g⟩|⟨e,_⟩|⟨e,_⟩
 ·exact g
 ·exact absurd (he.symm.trans e) (by decide)
 ·exact absurd (he.symm.trans e) (by decide)
structure Keeps(s:Sc)(S:Src)(d:Dk)(k:Nat):Prop where
 h:SrH s S
 ok:d.Ok
 lo:d.loose.length≤1
 w:S.w.fault≠0∨∃ recs,WGoodC d S.w recs∧recs.length≤k+1∧lenT recs≤200000*(k+1)
theorem Keeps.wok{s:Sc}{S:Src}{d:Dk}{k:Nat}(h:Keeps s S d k)(hk:k≤1000):WOk S.w:=by
 rcases h.w with h1|⟨recs,g,h1,h2⟩
 ·exact⟨fun e=>absurd e h1⟩
 ·exact g.wok ⟨by omega,by omega⟩
theorem Keeps.up{s:Sc}{S S':Src}{d:Dk}{k:Nat}(h:Keeps s S d k)(h':SrH s S')(e:S'.w=S.w):Keeps s S' d (k+1):=
 ⟨h',h.ok,h.lo,by
  rw[e]
  rcases h.w with h1|⟨recs,g,h1,h2⟩
  ·exact .inl h1
  ·exact .inr ⟨recs,g,by omega,by omega⟩⟩
theorem Keeps.commit{s:Sc}{S:Src}{d:Dk}{k:Nat}(h:Keeps s S d k):Keeps s (S.commitS d).1 (S.commitS d).2.1 (k+1):=by
 rcases h.w with h1|⟨recs,g,h1,h2⟩
 ·have e:S.commitS d=(S,d,0,S.w.fault):=by unfold Src.commitS;rw[if_pos h1]
  rw[e]
  exact h.up h.h rfl
 ·rcases commitS_cases h.h g with⟨x,hx,hc,h3,_,⟨w1,e⟩,g'⟩|⟨_,_,_,er,el,et,g'⟩|⟨x,hx,hc,h3,_,hf,er,el,et,g'⟩
  ·obtain⟨a,b,c,dd⟩:=h.h.i.tx x hx
   obtain⟨o1,o2⟩:=rec_okS (n:=S.l.length+1) a.len dd.ch
   refine⟨?_,g'.ok,by rw[g'.loose];simp,.inr ⟨_,g',by rw[List.length_append,List.length_singleton];omega,by rw[lenT_app];omega⟩⟩
   rw[e]
   exact h.h.commit_ok hx hc h3 w1
  ·refine⟨?_,g'.ok,by rw[g'.loose];simp,.inr ⟨_,g',by omega,by omega⟩⟩
   refine⟨⟨by rw[er];exact h.h.i.ok,by rw[er];exact h.h.i.wf,by rw[el];exact h.h.i.few,fun y hy=>?_⟩,by rw[el,er];exact h.h.h⟩
   rw[er]
   rcases et with et|et
   ·rw[et]at hy;exact h.h.i.tx y hy
   ·rw[et]at hy;cases hy
  ·refine⟨?_,g'.ok,g'.few,.inl (by rw[hf];decide)⟩
   refine⟨⟨by rw[er];exact h.h.i.ok,by rw[er];exact h.h.i.wf,by rw[el];exact h.h.i.few,fun y hy=>?_⟩,by rw[el,er];exact h.h.h⟩
   rw[er]
   rw[et]at hy;exact h.h.i.tx y hy
theorem opC_row{s:Sc}{c:Chg}{o:Opr}(hc:ChOk c)(h:opC s c=some o):(∀ v∈o.row,v.wf)∧o.row.length≤1000000:=by
 obtain⟨l1,l2,_⟩:=chok_lens hc
 unfold opC at h
 split at h
 ·cases h
 split at h
 ·split at h
  ·rename_i v hv
   obtain rfl:=Option.some.inj h
   exact⟨fun x hx=>by rw[List.mem_singleton.1 hx];exact hc.wb v (List.mem_of_getElem? hv),by simp⟩
  ·cases h
 ·obtain rfl:=Option.some.inj h
  exact⟨hc.wa,l2⟩
theorem doneC_wf{r:Rl}{c:Chg}(h:Rl.Wf r)(hc:ChOk c):Rl.Wf (doneC r c).1:=by
 unfold doneC
 split
 ·exact h
 ·rename_i o ho
  exact doOp_wf h (opC_row hc ho).1
theorem doneN_wf:∀ {l:List Chg} {r:Rl},Rl.Wf r→(∀ c∈l,ChOk c)→Rl.Wf (doneN r l)
 | [],_,h,_=>h
 |c::l,r,h,hc=>doneN_wf (l:=l) (doneC_wf h (hc c (List.mem_cons_self ..))) (fun x hx=>hc x (List.mem_cons_of_mem _ hx))
theorem hist_wf:∀ {ls:List (List Chg)} {r0 r:Rl},Rl.Wf r0→(∀ l∈ls,∀ c∈l,ChOk c)→hist r0 ls=some r→Rl.Wf r
 | [],r0,r,h0,_,h=>by rw[← Option.some.inj h];exact h0
 |l::ls,r0,r,h0,hc,h=>by
  unfold hist at h
  split at h
  ·rename_i r1 h1
   split at h
   ·have e:=(dones_N h1).1
    exact hist_wf (r0:=r1) (by rw[← e];exact doneN_wf h0 (hc l (List.mem_cons_self ..))) (fun x hx=>hc x (List.mem_cons_of_mem _ hx)) h
   ·cases h
  ·cases h
theorem Keeps.begin{s:Sc}{S:Src}{d:Dk}{k:Nat}(h:Keeps s S d k):Keeps s S.begin.1 d (k+1):=h.up h.h.begin (begin_w S)
theorem Keeps.doS{s:Sc}{S:Src}{d:Dk}{k:Nat}(h:Keeps s S d k){o:Opr}(hl:o.row.length≤1000000)(hw:∀ v∈o.row,v.wf):Keeps s (S.doS o).1 d (k+1):=h.up (h.h.doS hl hw) (doS_w S o)
theorem Keeps.s{s:Sc}{S:Src}{d:Dk}{k:Nat}(hc:checkS s=true)(h:Keeps s S d k):S.r.s=s:=(hist_ok (Rl.Ok.new hc) h.h.h.h).2
theorem InOrder.small17{r:Rl}{t:Int}{ask:List Vl→Bool}{l:List Rw}(h:InOrder r t ask (l.map (·.2)))(hok:r.Ok):l.length≤200∧∀ x∈l,x.2.length≤8:=by
 refine⟨?_,fun x hx=>?_⟩
 ·have h1:=h.perm.length_eq
  have h2:=rowsAt_len hok t ask
  rw[List.length_map]at h1
  omega
 ·obtain⟨p,hp,_⟩:=rowsAt_mem hok (h.perm.subset (List.mem_map_of_mem hx))
  exact row_len hok (aget_of_mem hok hp)
end Go.Proofs.YtmnafjonbeihiaaGreatDoor
