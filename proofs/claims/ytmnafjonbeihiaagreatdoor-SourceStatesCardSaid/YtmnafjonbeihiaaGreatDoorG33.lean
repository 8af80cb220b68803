/- Texts merged: SwA SwB SwC. -/
import Derived.Test.YtmnafjonbeihiaaGreatDoorSuM
import Derived.Test.YtmnafjonbeihiaaGreatDoorK2
import Derived.Test.YtmnafjonbeihiaaGreatDoorG31
import Derived.Test.YtmnafjonbeihiaaGreatDoorK3
import Derived.Test.YtmnafjonbeihiaaGreatDoorG12
set_option linter.unusedSimpArgs false
set_option linter.unusedVariables false
set_option maxRecDepth 100000
namespace Go.Proofs.YtmnafjonbeihiaaGreatDoor
open Go Go.Fx Go.Proofs Go.Pl
structure Zs where
 d:Int
 o:Om
 n:Int
 m:Int
def zsV(x:Zs):List Value:=[.int .i64 x.d,.int .u8 x.o.kind,.int .i64 x.o.table,x.o.rv.1,.int .i64 x.n,.int .i64 x.m]
structure ZsR(A:HProp)(va:Value)(az:List Zs):Prop where
 vw:Vw A 6 va (az.map zsV)
 op:∀ a∈az,OmR A a.o
 len:az.length≤140737488355328
theorem OmR.ext{P P':HProp}(e:Ext P P'){o:Om}(h:OmR P o):OmR P' o:=⟨e.vw h.vw,h.len,h.txt⟩
def opsUz(az:List Zs)(n:Nat):List Om:=(az.take n).map Zs.o
set_option maxHeartbeats 4000000 in
theorem heavy17_spec(vs va:Value)(ts:List Tb)(az:List Zs)(A:HProp)(h:SVr A vs ts)(ha:ZsR A va az):
  FSpec Tryz.prog 19 [.agg #[vs],va] [A] (Bool×HProp) (fun y=>Ext A y.2∧(y.1=false→smallS ts∧smallO (az.map Zs.o)∧az.length≤150)) (fun y=>.bool y.1) (fun y=>[y.2]):=by
 have hva:=ha.vw
 have hza:=ha.len
 have la:(az.map zsV).length=az.length:=by simp
 refine spec_intro [] _ Tryz.func19 rfl Tryz.ntmps19 (by rfl) (fun w0 R=>?_)
 refine ok_learn (VwIn.slice (VwIn.here hva)) ?_
 rintro⟨pa,ca,rfl⟩
 refine ok_learn (VwIn.slice (VwIn.here h.vw)) ?_
 rintro⟨ps,cs,rfl⟩
 repeat'(first|(refine gY ?_;intros)|(refine hY ?_ ?_<;>intro hgd)|(refine jY ?_ ?_<;>intro _)|fail)
 rename_i b2
 refine ok_map (fun _ h=>nilRow (e:=24) (n:=3) h) ?_
 refine ok_map (L':=[A,row 24 3 (.slice none 0 0) ((opsUz az 0).map opV),pts b2 (.cells [.slice ps (ts.map tbV).length cs].toArray 29)]++R) entD ?_
 refine ok_loop' (γ:=Nat×V1s) (fun g ρ L=>g.1≤az.length∧g.1≤400∧Knows ρ [(1,.slice pa (az.map zsV).length ca),(2,.pointer (some ⟨b2,0,none⟩)),(5,g.2.1),(6,.int .i64 g.1)]∧L=[A,row 24 3 g.2.1 ((opsUz az g.1).map opV),pts b2 (.cells [.slice ps (ts.map tbV).length cs].toArray 29)]++R) (fun g=>az.length-g.1)
  (0,⟨.slice none 0 0,rfl⟩) ⟨by simp,by simp,⟨rfl,rfl,rfl,rfl,trivial⟩,rfl⟩ ?_
 rintro⟨i,⟨v,hv⟩⟩ ρ L ⟨hi,hi4,hk,rfl⟩
 dsimp only at hi hi4 hk ⊢
 refine ok_regs hk ?_
 have hul:(opsUz az i).length=i:=by unfold opsUz;rw[List.length_map,List.length_take];omega
 have hum:((opsUz az i).map opV).length=i:=by rw[List.length_map,hul]
 refine ok_learn (rowShapeS (e:=24) (n:=3) (v:=v) (xs:=(opsUz az i).map opV) (by decide) takeD) ?_
 rintro⟨pv,cv,rfl,hcv,hsv⟩
 cases t1:decide ((i:Int)<((az.map zsV).length:Int))with
 |true=>
  have h0:i<az.length:=by have:=of_decide_eq_true t1;omega
  cases t2:decide ((i:Int)<400)with
  |true=>
   have h4:i<400:=by have:=of_decide_eq_true t2;omega
   have hx:(az.map zsV)[i]? =some (zsV az[i]):=by rw[List.getElem?_map,List.getElem?_eq_getElem h0];rfl
   have hn1:i<(az.map zsV).length:=by omega
   have hst:opsUz az (i+1)=opsUz az i++[az[i].o]:=by unfold opsUz;rw[List.take_succ_eq_append_getElem h0,List.map_append];rfl
   refine ok_learn (VwIn.base (n:=6) (xs:=az.map zsV) (VwIn.here hva) (by intro e;rw[e]at hn1;simp at hn1)) ?_
   rintro⟨bu,ou,rfl⟩
   have hom:=(ha.op _ (List.getElem_mem h0)).vw
   generalize az[i]=x at hx hst hom
   obtain⟨xd,⟨ok,ot,⟨ov,hov⟩,ol⟩,xn,xm⟩:=x
   dsimp only[zsV]at hx hst hom
   refine ok_learn (VwIn.slice (VwIn.here hom)) ?_
   rintro⟨px,cx,rfl⟩
   generalize opsUz az i=acc at hst hul hum hcv hsv ⊢
   repeat'(first|(refine gY ?_;intros)|(refine hY ?_ ?_<;>intro hgd)|(refine jY ?_ ?_<;>intro _)|fail)
   rename_i v1 hv1 v2 hv2
   refine cont_map (L':=[A,row 24 3 v2 ((opsUz az (i+1)).map opV),pts b2 (.cells [.slice ps (ts.map tbV).length cs].toArray 29)]++R) (by rw[hst,List.map_append];exact entD) ?_
   refine cont_back (i+1,⟨v2,hv2⟩) ⟨h0,h4,⟨rfl,rfl,rfl,rfl,trivial⟩,rfl⟩ (by show az.length-(i+1)<az.length-i;omega)
  |false=>
   have h4:i=400:=by have:=of_decide_eq_false t2;omega
   refine ok_poolN (ty:=24) (n:=3) (v:=.slice pv ((opsUz az i).map opV).length cv) (xs:=(opsUz az i).map opV) (P:=A) takeD ?_
   intro Q hE hw
   have hvy:=heavy14_spec (.slice ps (ts.map tbV).length cs) (.slice pv ((opsUz az i).map opV).length cv) ts (opsUz az i) Q (h.ext hE) ⟨hw,fun o ho=>by
    unfold opsUz at ho
    obtain⟨a,ha',rfl⟩:=List.mem_map.1 ho
    exact(ha.op a (List.mem_of_mem_take ha')).ext hE,by omega⟩
   repeat'(first|(refine gY ?_;intros)|(refine hY ?_ ?_<;>intro hgd)|(refine jY ?_ ?_<;>intro _)|fail)
   refine cl_Y (hvy) ?_
   intro y hy
   cases y with
   |true=>
    repeat'(first|(refine gY ?_;intros)|(refine hY ?_ ?_<;>intro hgd)|(refine jY ?_ ?_<;>intro _)|fail)
    (refine rt_Y (y:=(true,Q)) (hrs:=Tryz.results19) (hv:=?_) (hφ:=?_))
    ·rfl
    ·exact⟨hE,fun e=>by cases e⟩
   |false=>
   exfalso
   have:=(hy rfl).2.1
   rw[hul]at this;omega
 |false=>
  have hie:i=az.length:=by have:=of_decide_eq_false t1;omega
  have hall:opsUz az i=az.map Zs.o:=by unfold opsUz;rw[hie,List.take_length]
  refine ok_poolN (ty:=24) (n:=3) (v:=.slice pv ((opsUz az i).map opV).length cv) (xs:=(opsUz az i).map opV) (P:=A) takeD ?_
  intro Q hE hw
  have hvy:=heavy14_spec (.slice ps (ts.map tbV).length cs) (.slice pv ((opsUz az i).map opV).length cv) ts (opsUz az i) Q (h.ext hE) ⟨hw,fun o ho=>by
   unfold opsUz at ho
   obtain⟨a,ha',rfl⟩:=List.mem_map.1 ho
   exact(ha.op a (List.mem_of_mem_take ha')).ext hE,by omega⟩
  repeat'(first|(refine gY ?_;intros)|(refine hY ?_ ?_<;>intro hgd)|(refine jY ?_ ?_<;>intro _)|fail)
  refine cl_Y (hvy) ?_
  intro y hy
  rw[hall]at hy
  cases y with
  |true=>
   repeat'(first|(refine gY ?_;intros)|(refine hY ?_ ?_<;>intro hgd)|(refine jY ?_ ?_<;>intro _)|fail)
   (refine rt_Y (y:=(true,Q)) (hrs:=Tryz.results19) (hv:=?_) (hφ:=?_))
   ·rfl
   ·exact⟨hE,fun e=>by cases e⟩
  |false=>
   cases t3:decide ((150:Int)<((az.map zsV).length:Int))with
   |true=>
    repeat'(first|(refine gY ?_;intros)|(refine hY ?_ ?_<;>intro hgd)|(refine jY ?_ ?_<;>intro _)|fail)
    (refine rt_Y (y:=(true,Q)) (hrs:=Tryz.results19) (hv:=?_) (hφ:=?_))
    ·rw[t3];rfl
    ·exact⟨hE,fun e=>by cases e⟩
   |false=>
    repeat'(first|(refine gY ?_;intros)|(refine hY ?_ ?_<;>intro hgd)|(refine jY ?_ ?_<;>intro _)|fail)
    (refine rt_Y (y:=(false,Q)) (hrs:=Tryz.results19) (hv:=?_) (hφ:=?_))
    ·rw[t3];rfl
    ·exact⟨hE,fun _=>⟨(hy rfl).1,(hy rfl).2,by have:=of_decide_eq_false t3;omega⟩⟩
theorem append_room{d:Dk}{w:Wv}{h:List BA}(g:WGoodC d w h)(l:List BA)(hl:allOk l=true)(hf:d.fuse= -1)(hs:d.still=false)(hr:(fused d.files:Int)+lenT l≤d.room):
  (appendW w d nC l).2.2=0∧(appendW w d nC l).2.1.fuse= -1∧(appendW w d nC l).2.1.still=false:=by
 have hfault:w.fault=0:=by rw[g.wv]
 obtain⟨fi,su,lo,ro,fu,st⟩:=d
 dsimp only at hf hs hr
 subst hf hs
 unfold appendW
 rw[if_neg (by rw[hfault];simp),if_neg (by rw[hl];simp)]
 by_cases h0:l.length=0
 ·rw[if_pos h0];exact⟨rfl,rfl,rfl⟩
 rw[if_neg h0]
 have hroom:((!((framesOf l).toList==[]))&&decide (ro<(fused fi:Int)+(framesOf l).size))=false:=by
  rw[framesOf_size,decide_eq_false (by omega),Bool.and_false]
 have e:Dk.append ⟨fi,su,lo,ro, -1,false⟩ nC (framesOf l)=(⟨(Cl.app nC (framesOf l)).run fi,su,lo++[.app nC (framesOf l)],ro, -1,false⟩,0):=by
  unfold Dk.append
  rw[live1 _ may_nC]
  dsimp only
  rw[hroom,if_neg (by simp),if_neg (by simp)]
  unfold Dk.doC
  dsimp only
  rw[if_neg (by decide)]
  rfl
 rw[e]
 dsimp only
 rw[if_neg (by simp)]
 have e2:Dk.sync ⟨(Cl.app nC (framesOf l)).run fi,su,lo++[.app nC (framesOf l)],ro, -1,false⟩=(Dk.settle ⟨(Cl.app nC (framesOf l)).run fi,su,lo++[.app nC (framesOf l)],ro, -1,false⟩,0):=by
  unfold Dk.sync
  rw[live0]
  dsimp only
  rw[if_neg (by simp),if_neg (by decide)]
  rfl
 rw[e2]
 dsimp only
 rw[if_neg (by simp)]
 exact⟨rfl,rfl,rfl⟩
def dN18:Dk:=(openW (newD 262144) nC).1
theorem dN18_w:(openW (newD 262144) nC).2=(0,[],0):=by decide +kernel
theorem dN18_is:dN18.fuse= -1∧dN18.still=false∧fused dN18.files=0∧dN18.room=262144:=by decide +kernel
theorem dN18_g:WGoodC dN18 ⟨0,0,0⟩ []:=by
 obtain⟨j,e,g⟩:=wal_textC (d:=newD 262144) (.new (by decide) (by decide)) rfl rfl rfl (h:=[]) (l:=[]) (k:=0) rfl rfl (by rw[ext_zero];rfl)
 have ej:([]:List BA)++([]:List BA).take j=[]:=by simp
 rw[ej]at g
 exact g
def fresh(s:Sc):Src:=⟨⟨s,[],0⟩,[],none,(appendW ⟨0,0,0⟩ dN18 nC [putSB s]).1⟩
def freshD(s:Sc):Dk:=(appendW ⟨0,0,0⟩ dN18 nC [putSB s]).2.1
theorem head_ok{s:Sc}(hc:checkS s=true):allOk [putSB s]=true∧lenT [putSB s]≤11413:=by
 have hz:=putSB_size hc
 exact⟨by simp[allOk];omega,by simp[lenT];omega⟩
theorem fresh_e{s:Sc}(hc:checkS s=true):(appendW ⟨0,0,0⟩ dN18 nC [putSB s]).2.2=0∧(freshD s).fuse= -1∧(freshD s).still=false:=by
 obtain⟨h1,h2⟩:=head_ok hc
 obtain⟨a,b,c,e⟩:=dN18_is
 exact append_room dN18_g _ h1 a b (by rw[c,e];omega)
theorem fresh_g{s:Sc}(hc:checkS s=true):WGoodC (freshD s) (fresh s).w [putSB s]:=by
 obtain⟨h1,h2⟩:=head_ok hc
 have he:=(fresh_e hc).1
 rcases append_goodC dN18_g [putSB s] h1 (by omega)with⟨_,g⟩|⟨e,_⟩|⟨e,_⟩
 ·exact g
 ·exact absurd (he.symm.trans e) (by decide)
 ·exact absurd (he.symm.trans e) (by decide)
structure Keeps(s:Sc)(S:Src)(d:Dk)(k:Nat):Prop where
 h:SrH s S
 ok:d.Ok
 lo:d.loose.length≤1
 w:S.w.fault≠0∨∃ recs,WGoodC d S.w recs∧recs.length≤k+1∧lenT recs≤200000*(k+1)
theorem Keeps.fresh{s:Sc}(hc:checkS s=true):Keeps s (fresh s) (freshD s) 0:=by
 have g:=fresh_g hc
 have h2:=(head_ok hc).2
 exact⟨SrH.new hc _,g.ok,by rw[g.loose];simp,.inr ⟨_,g,by simp,by omega⟩⟩
theorem Keeps.wok{s:Sc}{S:Src}{d:Dk}{k:Nat}(h:Keeps s S d k)(hk:k≤1000):WOk S.w:=by
 rcases h.w with h1|⟨recs,g,h1,h2⟩
 ·exact⟨fun e=>absurd e h1⟩
 ·exact g.wok ⟨by omega,by omega⟩
theorem Keeps.up{s:Sc}{S S':Src}{d:Dk}{k:Nat}(h:Keeps s S d k)(h':SrH s S')(e:S'.w=S.w):Keeps s S' d (k+1):=
 ⟨h',h.ok,h.lo,by
  rw[e]
  rcases h.w with h1|⟨recs,g,h1,h2⟩
  ·exact .inl h1
  ·exact .inr ⟨recs,g,by omega,by omega⟩⟩
theorem Keeps.commit{s:Sc}{S:Src}{d:Dk}{k:Nat}(h:Keeps s S d k):Keeps s (S.commitS d).1 (S.commitS d).2.1 (k+1):=by
 rcases h.w with h1|⟨recs,g,h1,h2⟩
 ·have e:S.commitS d=(S,d,0,S.w.fault):=by unfold Src.commitS;rw[if_pos h1]
  rw[e]
  exact h.up h.h rfl
 ·rcases commitS_cases h.h g with⟨x,hx,hc,h3,_,⟨w1,e⟩,g'⟩|⟨_,_,_,er,el,et,g'⟩|⟨x,hx,hc,h3,_,hf,er,el,et,g'⟩
  ·obtain⟨a,b,c,dd⟩:=h.h.i.tx x hx
   obtain⟨o1,o2⟩:=rec_okS (n:=S.l.length+1) a.len dd.ch
   refine⟨?_,g'.ok,by rw[g'.loose];simp,.inr ⟨_,g',by rw[List.length_append,List.length_singleton];omega,by rw[lenT_app];omega⟩⟩
   rw[e]
   exact h.h.commit_ok hx hc h3 w1
  ·refine⟨?_,g'.ok,by rw[g'.loose];simp,.inr ⟨_,g',by omega,by omega⟩⟩
   refine⟨⟨by rw[er];exact h.h.i.ok,by rw[er];exact h.h.i.wf,by rw[el];exact h.h.i.few,fun y hy=>?_⟩,by rw[el,er];exact h.h.h⟩
   rw[er]
   rcases et with et|et
   ·rw[et]at hy;exact h.h.i.tx y hy
   ·rw[et]at hy;cases hy
  ·refine⟨?_,g'.ok,g'.few,.inl (by rw[hf];decide)⟩
   refine⟨⟨by rw[er];exact h.h.i.ok,by rw[er];exact h.h.i.wf,by rw[el];exact h.h.i.few,fun y hy=>?_⟩,by rw[el,er];exact h.h.h⟩
   rw[er]
   rw[et]at hy;exact h.h.i.tx y hy
theorem opC_row{s:Sc}{c:Chg}{o:Opr}(hc:ChOk c)(h:opC s c=some o):(∀ v∈o.row,v.wf)∧o.row.length≤1000000:=by
 obtain⟨l1,l2,_⟩:=chok_lens hc
 unfold opC at h
 split at h
 ·cases h
 split at h
 ·split at h
  ·rename_i v hv
   obtain rfl:=Option.some.inj h
   exact⟨fun x hx=>by rw[List.mem_singleton.1 hx];exact hc.wb v (List.mem_of_getElem? hv),by simp⟩
  ·cases h
 ·obtain rfl:=Option.some.inj h
  exact⟨hc.wa,l2⟩
theorem doneC_wf{r:Rl}{c:Chg}(h:Rl.Wf r)(hc:ChOk c):Rl.Wf (doneC r c).1:=by
 unfold doneC
 split
 ·exact h
 ·rename_i o ho
  exact doOp_wf h (opC_row hc ho).1
theorem doneN_wf:∀ {l:List Chg} {r:Rl},Rl.Wf r→(∀ c∈l,ChOk c)→Rl.Wf (doneN r l)
 | [],_,h,_=>h
 |c::l,r,h,hc=>doneN_wf (l:=l) (doneC_wf h (hc c (List.mem_cons_self ..))) (fun x hx=>hc x (List.mem_cons_of_mem _ hx))
theorem hist_wf:∀ {ls:List (List Chg)} {r0 r:Rl},Rl.Wf r0→(∀ l∈ls,∀ c∈l,ChOk c)→hist r0 ls=some r→Rl.Wf r
 | [],r0,r,h0,_,h=>by rw[← Option.some.inj h];exact h0
 |l::ls,r0,r,h0,hc,h=>by
  unfold hist at h
  split at h
  ·rename_i r1 h1
   split at h
   ·have e:=(dones_N h1).1
    exact hist_wf (r0:=r1) (by rw[← e];exact doneN_wf h0 (hc l (List.mem_cons_self ..))) (fun x hx=>hc x (List.mem_cons_of_mem _ hx)) h
   ·cases h
  ·cases h
theorem doneC_true{r:Rl}{c:Chg}(h:(doneC r c).2=true):∃ o,opC r.s c=some o∧(doneC r c).1=(r.doOp o).1∧(r.doOp o).2.2.2=0:=by
 unfold doneC at h ⊢
 split at h
 ·cases h
 ·rename_i o ho
  simp only[Bool.and_eq_true,decide_eq_true_eq]at h
  rw[ho]
  exact⟨o,rfl,rfl,h.1⟩
theorem Keeps.begin{s:Sc}{S:Src}{d:Dk}{k:Nat}(h:Keeps s S d k):Keeps s S.begin.1 d (k+1):=h.up h.h.begin (begin_w S)
theorem Keeps.doS{s:Sc}{S:Src}{d:Dk}{k:Nat}(h:Keeps s S d k){o:Opr}(hl:o.row.length≤1000000)(hw:∀ v∈o.row,v.wf):Keeps s (S.doS o).1 d (k+1):=h.up (h.h.doS hl hw) (doS_w S o)
theorem Keeps.id{s:Sc}{S:Src}{d:Dk}{k:Nat}(h:Keeps s S d k):Keeps s S d (k+1):=h.up h.h rfl
theorem Keeps.s{s:Sc}{S:Src}{d:Dk}{k:Nat}(hc:checkS s=true)(h:Keeps s S d k):S.r.s=s:=(hist_ok (Rl.Ok.new hc) h.h.h.h).2
theorem InOrder.small17{r:Rl}{t:Int}{ask:List Vl→Bool}{l:List Rw}(h:InOrder r t ask (l.map (·.2)))(hok:r.Ok):l.length≤200∧∀ x∈l,x.2.length≤8:=by
 refine⟨?_,fun x hx=>?_⟩
 ·have h1:=h.perm.length_eq
  have h2:=rowsAt_len hok t ask
  rw[List.length_map]at h1
  omega
 ·obtain⟨p,hp,_⟩:=rowsAt_mem hok (h.perm.subset (List.mem_map_of_mem hx))
  exact row_len hok (aget_of_mem hok hp)
set_option maxHeartbeats 64000000 in
theorem SourceStates_spec(vs:Value)(ts:List Tb)(va:Value)(az:List Zs)(A:HProp)(hU:UT A)(hvc:vs.oneCell'=true)(hS:SVr A vs ts)(ha:ZsR A va az)(hwf:∀ a∈az,∀ v∈a.o.row,v.wf):
  FSpec Tryz.prog 4 [.agg #[vs],va] [A] HProp (fun P'=>Ext A P') (fun _=>.bool true) (fun P'=>[P']):=by
 have la:(az.map zsV).length=az.length:=by simp
 have lt:(ts.map tbV).length=ts.length:=by simp
 have hHv:=heavy17_spec vs va ts az A hS ha
 refine spec_intro [] _ Tryz.func4 rfl Tryz.ntmps4 (by rfl) (fun w0 R=>?_)
 refine ok_learn (VwIn.slice (VwIn.here ha.vw)) ?_
 rintro⟨pa,ca,rfl⟩
 repeat'(first|(refine gY ?_;intros)|(refine hY ?_ ?_<;>intro hgd)|(refine jY ?_ ?_<;>intro _)|fail)
 rename_i b2
 refine cl_Y (hHv) ?_
 rintro⟨y,P0⟩ ⟨hE0,hy⟩
 dsimp only at hE0 hy ⊢
 have hU0:=hU.ext hE0
 have hS0:=hS.ext hE0
 have hMy:=rMay_spec vs ts P0 hvc hS0.sv0
 cases y with
 |true=>
  repeat'(first|(refine gY ?_;intros)|(refine hY ?_ ?_<;>intro hgd)|(refine jY ?_ ?_<;>intro _)|fail)
  refine cl_Y (alive17_spec P0 hU0) ?_
  intro P' hE
  repeat'(first|(refine gY ?_;intros)|(refine hY ?_ ?_<;>intro hgd)|(refine jY ?_ ?_<;>intro _)|fail)
  (refine rt_Y (y:=P') (hrs:=Tryz.results4) (hv:=?_) (hφ:=?_))
  ·rfl
  ·exact hE0.trans hE
 |false=>
 obtain⟨hsm,⟨_,hso⟩,h150⟩:=hy rfl
 cases hc:checkS (ts.map Tb.c)with
 |false=>
  rw[hc]at hMy
  repeat'(first|(refine gY ?_;intros)|(refine hY ?_ ?_<;>intro hgd)|(refine jY ?_ ?_<;>intro _)|fail)
  refine cl_Y (hMy) ?_
  intro _ _
  repeat'(first|(refine gY ?_;intros)|(refine hY ?_ ?_<;>intro hgd)|(refine jY ?_ ?_<;>intro _)|fail)
  refine cl_Y (alive17_spec P0 hU0) ?_
  intro P' hE
  repeat'(first|(refine gY ?_;intros)|(refine hY ?_ ?_<;>intro hgd)|(refine jY ?_ ?_<;>intro _)|fail)
  (refine rt_Y (y:=P') (hrs:=Tryz.results4) (hv:=?_) (hφ:=?_))
  ·rfl
  ·exact hE0.trans hE
 |true=>
 rw[hc]at hMy
 have hn:=new_spec 262144 (by decide) (by decide)
 have hO:=fun(b:Nat)=>sOpen_new b (newD 262144) (freshD (ts.map Tb.c)) (fresh (ts.map Tb.c)).w vs ts P0 hvc hU0 hS0.sv0 hc (.new (by decide) (by decide)) (by simp[newD]) dN18_w dN18_g.ok (by show dN18.loose.length≤_;rw[dN18_g.loose];simp) (Prod.ext rfl (Prod.ext rfl (fresh_e hc).1))
 have hK0:=Keeps.fresh hc
 rw[show(⟨⟨ts.map Tb.c,[],0⟩,[],none,(fresh (ts.map Tb.c)).w⟩:Src)=fresh (ts.map Tb.c)from rfl]at hO
 generalize fresh (ts.map Tb.c)=S0 at hO hK0
 generalize freshD (ts.map Tb.c)=D0 at hO hK0
 generalize newD 262144=dn at hn hO
 repeat'(first|(refine gY ?_;intros)|(refine hY ?_ ?_<;>intro hgd)|(refine jY ?_ ?_<;>intro _)|fail)
 refine cl_Y (hMy) ?_
 intro _ _
 repeat'(first|(refine gY ?_;intros)|(refine hY ?_ ?_<;>intro hgd)|(refine jY ?_ ?_<;>intro _)|fail)
 refine cl_Y (hn) ?_
 intro b _
 repeat'(first|(refine gY ?_;intros)|(refine hY ?_ ?_<;>intro hgd)|(refine jY ?_ ?_<;>intro _)|fail)
 refine cl_Y (hO b) ?_
 rintro⟨xb,P1⟩ hE1
 dsimp only at hE1 ⊢
 repeat'(first|(refine gY ?_;intros)|(refine hY ?_ ?_<;>intro hgd)|(refine jY ?_ ?_<;>intro _)|fail)
 refine ok_map (L':=[srP P1 xb b S0,diskP b D0,P1,pts b2 (.cells [vs].toArray 29)]++R) entD ?_
 have hE01:=hE0.trans hE1
 refine ok_loop' (γ:=Nat×Src×Dk×HProp) (fun g ρ L=>g.1≤az.length∧Keeps (ts.map Tb.c) g.2.1 g.2.2.1 g.1∧Ext P1 g.2.2.2∧
   Knows ρ [(1,.slice pa (az.map zsV).length ca),(2,.pointer (some ⟨b2,0,none⟩)),(7,.pointer (some ⟨xb,0,none⟩)),(9,.int .i64 (g.1:Int))]∧
   L=[srP g.2.2.2 xb b g.2.1,diskP b g.2.2.1,g.2.2.2,pts b2 (.cells [vs].toArray 29)]++R)
  (fun g=>az.length-g.1) (0,S0,D0,P1) ⟨Nat.zero_le _,hK0,.refl _,⟨rfl,rfl,rfl,rfl,trivial⟩,rfl⟩ ?_
 clear hK0 hO hMy hn hHv
 rintro⟨i,S,d,P⟩ ρ L ⟨hi,hK,hE,hk,rfl⟩
 dsimp only at hi hK hE hk ⊢
 refine ok_regs hk ?_
 have hUP:=hU.ext (hE01.trans hE)
 cases t1:decide ((i:Int)<((az.map zsV).length:Int))with
 |true=>
  have h0:i<az.length:=by have:=of_decide_eq_true t1;omega
  have hx:(az.map zsV)[i]? =some (zsV az[i]):=by rw[List.getElem?_map,List.getElem?_eq_getElem h0];rfl
  have hn1:i<(az.map zsV).length:=by omega
  have hvA:=(hE01.trans hE).vw ha.vw
  have hom:=((ha.op _ (List.getElem_mem h0)).ext (hE01.trans hE)).vw
  have hwf1:=hwf _ (List.getElem_mem h0)
  have hln:=hso az[i].o (List.mem_map_of_mem (List.getElem_mem h0))
  generalize az[i]=x at hx hom hwf1 hln
  obtain⟨xd,⟨ok,ot,⟨ov,hov⟩,ol⟩,xn,xm⟩:=x
  dsimp only[zsV]at hx hom hwf1 hln
  have hB:=sBegin_spec xb b S P
  have hD:=sDo_spec xb b S ⟨ok,ot,ol⟩ ov P hK.h.i hUP hom hov hwf1 (by dsimp only;omega)
  have hC:=sCommit_spec xb b S d P hK.h.i hUP hK.ok (by have:=hK.lo;omega) (hK.wok (by omega))
  have hKd:=hK.doS (o:=⟨ok,ot,ol⟩) (by dsimp only;omega) hwf1
  have hKb:=hK.begin
  have hKc:=hK.commit
  have hKi:=hK.id
  refine ok_learn (VwIn.base (n:=6) (xs:=az.map zsV) (VwIn.there (VwIn.there (VwIn.here hvA))) (by intro e;rw[e]at hn1;simp at hn1)) ?_
  rintro⟨bu,ou,rfl⟩
  refine ok_learn (VwIn.slice (VwIn.there (VwIn.there (VwIn.here hom)))) ?_
  rintro⟨px,cx,rfl⟩
  cases c0:decide (xd=0)with
  |true=>
   generalize S.begin=Sb at hB hKb
   repeat'(first|(refine gY ?_;intros)|(refine hY ?_ ?_<;>intro hgd)|(refine jY ?_ ?_<;>intro _)|fail)
   refine cl_Y (hB) ?_
   intro _ _
   repeat'(first|(refine gY ?_;intros)|(refine hY ?_ ?_<;>intro hgd)|(refine jY ?_ ?_<;>intro _)|fail)
   refine cont_map (L':=[srP P xb b Sb.1,diskP b d,P,pts b2 (.cells [vs].toArray 29)]++R) entD ?_
   exact cont_back (i+1,Sb.1,d,P) ⟨h0,hKb,hE,⟨rfl,rfl,rfl,rfl,trivial⟩,rfl⟩ (by dsimp only;omega)
  |false=>
  cases c1:decide (xd=1)with
  |true=>
   generalize S.doS ⟨ok,ot,ol⟩=Sb at hD hKd
   repeat'(first|(refine gY ?_;intros)|(refine hY ?_ ?_<;>intro hgd)|(refine jY ?_ ?_<;>intro _)|fail)
   refine cl_Y (hD) ?_
   intro P2 hE2
   repeat'(first|(refine gY ?_;intros)|(refine hY ?_ ?_<;>intro hgd)|(refine jY ?_ ?_<;>intro _)|fail)
   refine cont_map (L':=[srP P2 xb b Sb.1,diskP b d,P2,pts b2 (.cells [vs].toArray 29)]++R) entD ?_
   exact cont_back (i+1,Sb.1,d,P2) ⟨h0,hKd,hE.trans hE2,⟨rfl,rfl,rfl,rfl,trivial⟩,rfl⟩ (by dsimp only;omega)
  |false=>
  cases c2:decide (xd=2)with
  |true=>
   generalize S.commitS d=Sb at hC hKc
   repeat'(first|(refine gY ?_;intros)|(refine hY ?_ ?_<;>intro hgd)|(refine jY ?_ ?_<;>intro _)|fail)
   refine cl_Y (hC) ?_
   intro P2 hE2
   repeat'(first|(refine gY ?_;intros)|(refine hY ?_ ?_<;>intro hgd)|(refine jY ?_ ?_<;>intro _)|fail)
   refine cont_map (L':=[srP P2 xb b Sb.1,diskP b Sb.2.1,P2,pts b2 (.cells [vs].toArray 29)]++R) entD ?_
   exact cont_back (i+1,Sb.1,Sb.2.1,P2) ⟨h0,hKc,hE.trans hE2,⟨rfl,rfl,rfl,rfl,trivial⟩,rfl⟩ (by dsimp only;omega)
  |false=>
   repeat'(first|(refine gY ?_;intros)|(refine hY ?_ ?_<;>intro hgd)|(refine jY ?_ ?_<;>intro _)|fail)
   refine cont_map (L':=[srP P xb b S,diskP b d,P,pts b2 (.cells [vs].toArray 29)]++R) entD ?_
   exact cont_back (i+1,S,d,P) ⟨h0,hKi,hE,⟨rfl,rfl,rfl,rfl,trivial⟩,rfl⟩ (by dsimp only;omega)
 |false=>
  repeat'(first|(refine gY ?_;intros)|(refine hY ?_ ?_<;>intro hgd)|(refine jY ?_ ?_<;>intro _)|fail)
  have hSs:=hK.s hc
  have hHi:=hK.h.h
  have hfew:=hHi.few
  have hUP:=hU.ext (hE01.trans hE)
  have hNw:=relNew_spec vs ts P (hS.ext (hE01.trans hE)).sv0 hc
  have hok0:Rl.Ok ⟨ts.map Tb.c,[],0⟩:=Rl.Ok.new hc
  have h30:ts.length≤30:=hsm.1
  clear hK hi t1 hso h150 hsm
  refine cl_Y (hNw) ?_
  rintro⟨rb,P2⟩ hE2
  dsimp only at hE2 ⊢
  repeat'(first|(refine gY ?_;intros)|(refine hY ?_ ?_<;>intro hgd)|(refine jY ?_ ?_<;>intro _)|fail)
  refine ok_map (fun _ h=>srP_ext hE2 (xb:=xb) (b:=b) (S:=S) (Take.out1 (A:=srP P xb b S) takeD h)) ?_
  refine ok_map (L':=[srP P2 xb b S,relP P2 rb ⟨ts.map Tb.c,[],0⟩,P2,diskP b d,pts b2 (.cells [vs].toArray 29)]++R) entD ?_
  refine ok_loop' (γ:=Nat×Rl×HProp) (fun g ρ L=>g.1≤S.l.length+1∧hist ⟨ts.map Tb.c,[],0⟩ (S.l.take (g.1-1))=some g.2.1∧Ext P2 g.2.2∧
    Knows ρ [(2,.pointer (some ⟨b2,0,none⟩)),(7,.pointer (some ⟨xb,0,none⟩)),(10,.pointer (some ⟨rb,0,none⟩)),(12,.int .u64 (g.1:Int))]∧
    L=[srP g.2.2 xb b S,relP g.2.2 rb g.2.1,g.2.2,diskP b d,pts b2 (.cells [vs].toArray 29)]++R)
   (fun g=>S.l.length+1-g.1) (0,⟨ts.map Tb.c,[],0⟩,P2) ⟨Nat.zero_le _,rfl,.refl _,⟨rfl,rfl,rfl,rfl,trivial⟩,rfl⟩ ?_
  clear hNw
  have hE02:=hE01.trans (hE.trans hE2)
  rintro⟨n,rn,Pn⟩ ρ L ⟨hn0,hnh,hEn,hkn,rfl⟩
  dsimp only at hn0 hnh hEn hkn ⊢
  refine ok_regs hkn ?_
  have hE0n:=hE02.trans hEn
  have hCm:=sCommits_spec xb b S Pn hfew
  obtain⟨hrok,hrs⟩:=hist_ok hok0 hnh
  have hrwf:Rl.Wf rn:=hist_wf new_wf (fun l hl=>(hHi.ch l (List.mem_of_mem_take hl)).2) hnh
  cases t2:decide ((n:Int)≤(S.l.length:Int))with
  |false=>
   repeat'(first|(refine gY ?_;intros)|(refine hY ?_ ?_<;>intro hgd)|(refine jY ?_ ?_<;>intro _)|fail)
   refine cl_Y (hCm) ?_
   intro _ _
   repeat'(first|(refine gY ?_;intros)|(refine hY ?_ ?_<;>intro hgd)|(refine jY ?_ ?_<;>intro _)|fail)
   refine cl_Y (alive17_spec Pn (hU.ext hE0n)) ?_
   intro P' hE'
   repeat'(first|(refine gY ?_;intros)|(refine hY ?_ ?_<;>intro hgd)|(refine jY ?_ ?_<;>intro _)|fail)
   (refine rt_Y (y:=P') (hrs:=Tryz.results4) (hv:=?_) (hφ:=?_))
   ·rfl
   ·exact hE0n.trans hE'
  |true=>
   have hnl:n≤S.l.length:=by have:=of_decide_eq_true t2;omega
   have t3:decide ((n:Int)≤300)=true:=decide_eq_true (by omega)
   cases t4:decide ((n:Int)>(0:Int))with
   |false=>
    obtain rfl:n=0:=by have:=of_decide_eq_false t4;omega
    repeat'(first|(refine gY ?_;intros)|(refine hY ?_ ?_<;>intro hgd)|(refine jY ?_ ?_<;>intro _)|fail)
    refine cl_Y (hCm) ?_
    intro _ _
    repeat'(first|(refine gY ?_;intros)|(refine hY ?_ ?_<;>intro hgd)|(refine jY ?_ ?_<;>intro _)|fail)
    have hAt:=sAt_spec xb b S rn 0 Pn (hU.ext hE0n) (by rw[hSs];exact hc) (by omega) hfew (by rw[hSs];exact hnh)
    refine cl_Y (hAt) ?_
    rintro⟨yb,P4⟩ hE4
    dsimp only at hE4 ⊢
    have hWh:=relWhole_spec yb rn P4 hrok
    rw[show rn.whole=true by rw[← Option.some.inj hnh];rfl,cond_true]at hWh
    refine opsL_mapL (fun _ h=>relP_ext hE4 (b:=rb) (r:=rn) (Take.out1 (A:=relP Pn rb rn) takeD h)) ?_
    repeat'(first|(refine gY ?_;intros)|(refine hY ?_ ?_<;>intro hgd)|(refine jY ?_ ?_<;>intro _)|fail)
    refine cl_Y (hWh) ?_
    intro _ _
    repeat'(first|(refine gY ?_;intros)|(refine hY ?_ ?_<;>intro hgd)|(refine jY ?_ ?_<;>intro _)|fail)
    refine ok_learn (VwIn.slice (VwIn.there (VwIn.here (hS.ext (hE0n.trans hE4)).vw))) ?_
    rintro⟨ps,cs,rfl⟩
    have hwn:IntKind.u64.wrap (arith BinOp.add ((0:Nat):Int) 1)=((0+1:Nat):Int):=by show IntKind.u64.wrap (((0:Nat):Int)+1)=_;rw[show(((0:Nat):Int)+1)=((0+1:Nat):Int)by omega,wrap_u64];omega
    refine ok_map (L':=[srP P4 xb b S,relP P4 yb rn,relP P4 rb rn,P4,diskP b d,pts b2 (.cells [.slice ps (ts.map tbV).length cs].toArray 29)]++R) entD ?_
    refine ok_loop' (γ:=Nat×HProp) (fun g ρ L=>g.1≤ts.length∧Ext P4 g.2∧
      Knows ρ [(2,.pointer (some ⟨b2,0,none⟩)),(7,.pointer (some ⟨xb,0,none⟩)),(10,.pointer (some ⟨rb,0,none⟩)),(12,.int .u64 ((0:Nat):Int)),(21,.pointer (some ⟨yb,0,none⟩)),(23,.int .i64 (g.1:Int))]∧
      L=[srP g.2 xb b S,relP g.2 yb rn,relP g.2 rb rn,g.2,diskP b d,pts b2 (.cells [.slice ps (ts.map tbV).length cs].toArray 29)]++R)
     (fun g=>ts.length-g.1) (0,P4) ⟨Nat.zero_le _,.refl _,⟨rfl,rfl,rfl,rfl,rfl,rfl,trivial⟩,rfl⟩ ?_
    rintro⟨t,Pt⟩ ρ L ⟨ht0,hEt,hkt,rfl⟩
    dsimp only at ht0 hEt hkt ⊢
    refine ok_regs hkt ?_
    cases t5:decide ((t:Int)<((ts.map tbV).length:Int))with
    |false=>
     repeat'(first|(refine gY ?_;intros)|(refine hY ?_ ?_<;>intro hgd)|(refine jY ?_ ?_<;>intro _)|fail)
     rw[hwn]
     repeat'(first|(refine gY ?_;intros)|(refine hY ?_ ?_<;>intro hgd)|(refine jY ?_ ?_<;>intro _)|fail)
     refine cont_map (L':=[srP Pt xb b S,relP Pt rb rn,Pt,diskP b d,pts b2 (.cells [.slice ps (ts.map tbV).length cs].toArray 29)]++R) entD ?_
     exact cont_back (0+1,rn,Pt) ⟨by dsimp only;omega,hnh,hEn.trans (hE4.trans hEt),⟨rfl,rfl,rfl,rfl,trivial⟩,rfl⟩ (by dsimp only;omega)
    |true=>
     have htl:t<ts.length:=by have:=of_decide_eq_true t5;omega
     have hR1:=relRows_spec yb rn t Pt hrok hrwf
     have hR2:=fun Q=>relRows_spec rb rn t Q hrok hrwf
     repeat'(first|(refine gY ?_;intros)|(refine hY ?_ ?_<;>intro hgd)|(refine jY ?_ ?_<;>intro _)|fail)
     refine cl_Y (hR1) ?_
     rintro⟨⟨u1,hu1⟩,a,P5⟩ ⟨hE5,hq1,hio1⟩
     dsimp only at hE5 hq1 hio1 ⊢
     refine opsL_mapL (fun _ h=>relP_ext hE5 (b:=rb) (r:=rn) (Take.out1 (A:=relP Pt rb rn) takeD h)) ?_
     repeat'(first|(refine gY ?_;intros)|(refine hY ?_ ?_<;>intro hgd)|(refine jY ?_ ?_<;>intro _)|fail)
     refine cl_Y (hR2 P5) ?_
     rintro⟨⟨u2,hu2⟩,c,P6⟩ ⟨hE6,hq2,hio2⟩
     dsimp only at hE6 hq2 hio2 ⊢
     have hsm:=same14_spec a c u1 u2 (row 22 1 u1 (a.map rwV)) (row 22 1 u2 (c.map rwV)) P6 Vw.row Vw.row (fun x h=>hE6.vw (hq1 x h)) hq2 (by have:=(hio1.small17 hrok).1;omega) (fun x h=>by have:=(hio1.small17 hrok).2 x h;omega)
     rw[decide_eq_true (hio1.uniq hio2 rfl (List.Perm.refl _))]at hsm
     repeat'(first|(refine gY ?_;intros)|(refine hY ?_ ?_<;>intro hgd)|(refine jY ?_ ?_<;>intro _)|fail)
     refine cl_Y (hsm) ?_
     intro _ _
     repeat'(first|(refine gY ?_;intros)|(refine hY ?_ ?_<;>intro hgd)|(refine jY ?_ ?_<;>intro _)|fail)
     have hE56:=hE5.trans hE6
     refine cont_map (fun _ h=>srP_ext hE56 (xb:=xb) (b:=b) (S:=S) (Take.out1 (A:=srP Pt xb b S) takeD h)) ?_
     refine cont_map (fun _ h=>relP_ext hE6 (b:=yb) (r:=rn) (Take.out1 (A:=relP P5 yb rn) takeD h)) ?_
     refine cont_map (L':=[srP P6 xb b S,relP P6 yb rn,relP P6 rb rn,P6,diskP b d,pts b2 (.cells [.slice ps (ts.map tbV).length cs].toArray 29)]++R) entD ?_
     exact cont_back (t+1,P6) ⟨htl,hEt.trans hE56,⟨rfl,rfl,rfl,rfl,rfl,rfl,trivial⟩,rfl⟩ (by dsimp only;omega)
   |true=>
    obtain⟨k,rfl⟩:∃ k,n=k+1:=⟨n-1,by have:=of_decide_eq_true t4;omega⟩
    repeat'(first|(refine gY ?_;intros)|(refine hY ?_ ?_<;>intro hgd)|(refine jY ?_ ?_<;>intro _)|fail)
    refine cl_Y (hCm) ?_
    intro _ _
    repeat'(first|(refine gY ?_;intros)|(refine hY ?_ ?_<;>intro hgd)|(refine jY ?_ ?_<;>intro _)|fail)
    have hkl:k<S.l.length:=by omega
    obtain⟨cs,hks⟩:∃ cs,S.l[k]? =some cs:=⟨_,List.getElem?_eq_getElem hkl⟩
    obtain⟨r2,hd2,hw2,hn2⟩:=hist_step hHi.h hks hnh
    obtain⟨hN1,hN2⟩:=dones_N hd2
    have hchs:=(hHi.ch cs (List.mem_of_getElem? hks)).2
    have hcl60:=(hHi.ch cs (List.mem_of_getElem? hks)).1
    refine cl_Y (sChanges_spec xb b S k cs Pn hfew hks) ?_
    rintro⟨⟨cv,hcv⟩,cm,P3⟩ ⟨hE3,hcr,hcm⟩
    dsimp only at hE3 hcr hcm ⊢
    refine ops_poolN (ty:=61) (n:=4) (v:=cv) (xs:=cm.map cmV) (P:=P3) takeD ?_
    intro P5 hE5 hv5
    have hE35:=hE3.trans hE5
    refine opsL_mapL (fun _ h=>relP_ext hE35 (b:=rb) (r:=rn) (Take.out1 (A:=relP Pn rb rn) takeD h)) ?_
    refine opsL_mapL (fun _ h=>srP_ext hE5 (xb:=xb) (b:=b) (S:=S) (Take.out1 (A:=srP P3 xb b S) takeD h)) ?_
    have lcm:(cm.map cmV).length=cm.length:=by simp
    have lcs:cm.length=cs.length:=by rw[← hcm];simp
    have hcr5:∀ c∈cm,CmR P5 c:=fun c h=>(hcr c h).ext hE5
    refine ops_learn (VwIn.slice (VwIn.there (VwIn.there (VwIn.here hv5)))) ?_
    rintro⟨px,cx,rfl⟩
    clear hcr
    have hE05:=hE0n.trans hE35
    repeat'(first|(refine gY ?_;intros)|(refine hY ?_ ?_<;>intro hgd)|(refine jY ?_ ?_<;>intro _)|fail)
    refine ok_map (L':=[srP P5 xb b S,relP P5 rb rn,P5,diskP b d,pts b2 (.cells [vs].toArray 29)]++R) entD ?_
    refine ok_loop' (γ:=Nat×HProp) (fun g ρ L=>g.1≤cm.length∧Ext P5 g.2∧
      Knows ρ [(2,.pointer (some ⟨b2,0,none⟩)),(7,.pointer (some ⟨xb,0,none⟩)),(10,.pointer (some ⟨rb,0,none⟩)),(12,.int .u64 ((k+1:Nat):Int)),(13,.slice px (cm.map cmV).length cx),(15,.int .i64 (g.1:Int))]∧
      L=[srP g.2 xb b S,relP g.2 rb (doneN rn (cs.take g.1)),g.2,diskP b d,pts b2 (.cells [vs].toArray 29)]++R)
     (fun g=>cm.length-g.1) (0,P5) ⟨Nat.zero_le _,.refl _,⟨rfl,rfl,rfl,rfl,rfl,rfl,trivial⟩,rfl⟩ ?_
    rintro⟨j,Pj⟩ ρ L ⟨hj0,hEj,hkj,rfl⟩
    dsimp only at hj0 hEj hkj ⊢
    refine ok_regs hkj ?_
    have hE0j:=hE05.trans hEj
    cases t6:decide ((j:Int)<((cm.map cmV).length:Int))with
    |true=>
     have hjl:j<cm.length:=by have:=of_decide_eq_true t6;omega
     obtain⟨c,hcj⟩:∃ c,cm[j]? =some c:=⟨_,List.getElem?_eq_getElem hjl⟩
     have hcsj:cs[j]? =some c.c:=by rw[← hcm,List.getElem?_map,hcj];rfl
     have hOk:=hchs c.c (List.mem_of_getElem? hcsj)
     obtain⟨o,ho,hst,her⟩:=doneC_true (hN2 j c.c hcsj)
     obtain⟨how,hol⟩:=opC_row hOk ho
     rw[doneN_s,hrs]at ho
     have hds:=doneN_succ rn hcsj
     rw[hst]at hds
     have hjk:=doneN_ok hrok (cs.take j)
     generalize doneN rn (cs.take j)=rj at hst her hds hjk ⊢
     have hOp:=op17_spec vs ts c o Pj (hS.ext hE0j) hvc hc ((hcr5 c (List.mem_of_getElem? hcj)).ext hEj) (chok_lens hOk).2.2 ho
     have hDo:=fun(u:Value) (Q:HProp) (hUQ:UT Q) (hw:Vw Q 4 u (o.row.map valV)) (hu:u.oneCell'=true)=>relDo_spec rb rj o u Q hjk hUQ hw hu how hol
     rw[her,← hds]at hDo
     generalize hr3:doneN rn (cs.take (j+1))=r3 at hDo
     generalize rj.doOp o=dd at hDo
     have hvj:=hEj.vw hv5
     have hxc:(cm.map cmV)[j]? =some (cmV c):=by rw[List.getElem?_map,hcj];rfl
     have hjm:j<(cm.map cmV).length:=by omega
     have hcr1:=(hcr5 c (List.mem_of_getElem? hcj)).ext hEj
     have hcb:=hcr1.bv
     have hca:=hcr1.av
     clear hcr1 hds hst hjk
     obtain⟨ck,ct,⟨bv,hbv⟩,bef,⟨av,hav⟩,aft⟩:=c
     dsimp only[cmV]at hxc hcb hca hOp
     refine ok_learn (VwIn.base (n:=4) (p:=px) (len:=(cm.map cmV).length) (cap:=cx) (xs:=cm.map cmV) (VwIn.there (VwIn.there (VwIn.here hvj))) (by intro e;rw[e]at hjm;simp at hjm)) ?_
     rintro⟨bd,od,rfl⟩
     refine ok_learn (VwIn.slice (VwIn.there (VwIn.there (VwIn.here hcb)))) ?_
     rintro⟨pb',cb',rfl⟩
     refine ok_learn (VwIn.slice (VwIn.there (VwIn.there (VwIn.here hca)))) ?_
     rintro⟨pa',ca',rfl⟩
     repeat'(first|(refine gY ?_;intros)|(refine hY ?_ ?_<;>intro hgd)|(refine jY ?_ ?_<;>intro _)|fail)
     refine ok_meetE (γ:=Nat×V1s×HProp) (fun g ρ L=>Ext Pj g.2.2∧Vw g.2.2 4 g.2.1.1 (o.row.map valV)∧Knows ρ [(2,.pointer (some ⟨b2,0,none⟩)),(7,.pointer (some ⟨xb,0,none⟩)),(10,.pointer (some ⟨rb,0,none⟩)),(12,.int .u64 ((k+1:Nat):Int)),(13,.slice (some ⟨bd,od,none⟩) (cm.map cmV).length cx),(15,.int .i64 (j:Int)),(16,.pointer (some ⟨g.1,0,none⟩)),(17,.bool true)]∧
       L=[srP Pj xb b S,relP Pj rb rj,g.2.2,diskP b d,pts b2 (.cells [vs].toArray 29),pts g.1 (.cells [.int .u8 o.kind,.int .i64 o.table,g.2.1.1].toArray 24)]++R) ?_ ?_
     ·refine ok_draw_forkQ (cv:=[]) 5 9 [5,9] [pts b2 (.cells [vs].toArray 29),Pj] (by decide) (by kernel_rfl) rfl (by decide +kernel) (by decide +kernel) (takePre takeD) ?_
      repeat'(first|(refine gY ?_;intros)|(refine hY ?_ ?_<;>intro hgd)|(refine jY ?_ ?_<;>intro _)|fail)
      refine cont_forkQ (cv:=[]) rfl (by decide) rfl rfl rfl rfl rfl rfl (takePre takeD) (by decide +kernel) (by decide +kernel) ?_ ?_
      ·repeat'(first|(refine gY ?_;intros)|(refine hY ?_ ?_<;>intro hgd)|(refine jY ?_ ?_<;>intro _)|fail)
       refine clN_Y (hOp) ?_
       rintro⟨⟨u,hu⟩,q⟩ hvu
       dsimp only at hvu ⊢
       repeat'(first|(refine gY ?_;intros)|(refine hY ?_ ?_<;>intro hgd)|(refine jY ?_ ?_<;>intro _)|fail)
       rename_i b6
       unfold opRow
       cases q with
       |true=>
        dsimp only[cond_true]
        refine cont_poolN (ty:=93) (n:=4) (v:=u) (xs:=o.row.map valV) (P:=Pj) takeD ?_
        intro P6 hE6 hv6
        refine cont_map (L':=[srP Pj xb b S,relP Pj rb rj,P6,diskP b d,pts b2 (.cells [vs].toArray 29),pts b6 (.cells [.int .u8 o.kind,.int .i64 o.table,u].toArray 24)]++R) entD ?_
        exact cont_meet (b6,⟨u,hu⟩,P6) ⟨hE6,hv6,⟨rfl,rfl,rfl,rfl,rfl,rfl,rfl,rfl,trivial⟩,rfl⟩
       |false=>
        dsimp only[cond_false]
        refine cont_map (L':=[srP Pj xb b S,relP Pj rb rj,Pj,diskP b d,pts b2 (.cells [vs].toArray 29),pts b6 (.cells [.int .u8 o.kind,.int .i64 o.table,u].toArray 24)]++R) entD ?_
        exact cont_meet (b6,⟨u,hu⟩,Pj) ⟨.refl _,hvu rfl,⟨rfl,rfl,rfl,rfl,rfl,rfl,rfl,rfl,trivial⟩,rfl⟩
      ·intro b6
       repeat'(first|(refine gY ?_;intros)|(refine hY ?_ ?_<;>intro hgd)|(refine jY ?_ ?_<;>intro _)|fail)
       refine clN_Y (hOp) ?_
       rintro⟨⟨u,hu⟩,q⟩ hvu
       dsimp only at hvu ⊢
       repeat'(first|(refine gY ?_;intros)|(refine hY ?_ ?_<;>intro hgd)|(refine jY ?_ ?_<;>intro _)|fail)
       refine cont_late rfl ?_
       repeat'(first|(refine gY ?_;intros)|(refine hY ?_ ?_<;>intro hgd)|(refine jY ?_ ?_<;>intro _)|fail)
       unfold opRow
       cases q with
       |true=>
        dsimp only[cond_true]
        refine cont_poolN (ty:=93) (n:=4) (v:=u) (xs:=o.row.map valV) (P:=Pj) takeD ?_
        intro P6 hE6 hv6
        refine cont_map (L':=[srP Pj xb b S,relP Pj rb rj,P6,diskP b d,pts b2 (.cells [vs].toArray 29),pts b6 (.cells [.int .u8 o.kind,.int .i64 o.table,u].toArray 24)]++R) entD ?_
        exact cont_meet (b6,⟨u,hu⟩,P6) ⟨hE6,hv6,⟨rfl,rfl,rfl,rfl,rfl,rfl,rfl,rfl,trivial⟩,rfl⟩
       |false=>
        dsimp only[cond_false]
        refine cont_map (L':=[srP Pj xb b S,relP Pj rb rj,Pj,diskP b d,pts b2 (.cells [vs].toArray 29),pts b6 (.cells [.int .u8 o.kind,.int .i64 o.table,u].toArray 24)]++R) entD ?_
        exact cont_meet (b6,⟨u,hu⟩,Pj) ⟨.refl _,hvu rfl,⟨rfl,rfl,rfl,rfl,rfl,rfl,rfl,rfl,trivial⟩,rfl⟩
     rintro⟨b6,⟨u,hu⟩,P6⟩ ρ L ⟨hE6,hvu,hk6,rfl⟩
     dsimp only at hE6 hvu hk6 ⊢
     refine cont_regs hk6 ?_
     refine cont_map (fun _ h=>relP_ext hE6 (b:=rb) (r:=rj) (Take.out1 (A:=relP Pj rb rj) takeD h)) ?_
     repeat'(first|(refine gY ?_;intros)|(refine hY ?_ ?_<;>intro hgd)|(refine jY ?_ ?_<;>intro _)|fail)
     refine cl_Y (hDo u P6 (hU.ext (hE0j.trans hE6)) hvu hu) ?_
     rintro⟨⟨a1,ha1⟩,⟨b1,hb1⟩,P7⟩ ⟨hE7,hvw7⟩
     dsimp only at hE7 hvw7 ⊢
     repeat'(first|(refine gY ?_;intros)|(refine hY ?_ ?_<;>intro hgd)|(refine jY ?_ ?_<;>intro _)|fail)
     have hE67:=hE6.trans hE7
     refine cont_map (fun _ h=>srP_ext hE67 (xb:=xb) (b:=b) (S:=S) (Take.out1 (A:=srP Pj xb b S) takeD h)) ?_
     refine cont_map (L':=[srP P7 xb b S,relP P7 rb r3,P7,diskP b d,pts b2 (.cells [vs].toArray 29)]++R) entD ?_
     exact cont_back (j+1,P7) ⟨hjl,hEj.trans hE67,⟨rfl,rfl,rfl,rfl,rfl,rfl,trivial⟩,by dsimp only;rw[hr3]⟩ (by dsimp only;omega)
    |false=>
     have hje:j=cs.length:=by have:=of_decide_eq_false t6;omega
     have hrj:doneN rn (cs.take j)=r2:=by rw[hje,List.take_length];exact hN1
     rw[hrj]
     obtain⟨hrok2,_⟩:=hist_ok hok0 hn2
     have hrwf2:Rl.Wf r2:=hist_wf new_wf (fun l hl=>(hHi.ch l (List.mem_of_mem_take hl)).2) hn2
     clear hcr5 hN1 hN2 hrj
     repeat'(first|(refine gY ?_;intros)|(refine hY ?_ ?_<;>intro hgd)|(refine jY ?_ ?_<;>intro _)|fail)
     have hAt:=sAt_spec xb b S r2 (k+1) Pj (hU.ext hE0j) (by rw[hSs];exact hc) (by omega) hfew (by rw[hSs];exact hn2)
     refine cl_Y (hAt) ?_
     rintro⟨yb,P4⟩ hE4
     dsimp only at hE4 ⊢
     have hWh:=relWhole_spec yb r2 P4 hrok2
     rw[hw2,cond_true]at hWh
     refine opsL_mapL (fun _ h=>relP_ext hE4 (b:=rb) (r:=r2) (Take.out1 (A:=relP Pj rb r2) takeD h)) ?_
     repeat'(first|(refine gY ?_;intros)|(refine hY ?_ ?_<;>intro hgd)|(refine jY ?_ ?_<;>intro _)|fail)
     refine cl_Y (hWh) ?_
     intro _ _
     repeat'(first|(refine gY ?_;intros)|(refine hY ?_ ?_<;>intro hgd)|(refine jY ?_ ?_<;>intro _)|fail)
     refine ok_learn (VwIn.slice (VwIn.there (VwIn.here (hS.ext (hE0j.trans hE4)).vw))) ?_
     rintro⟨ps,cs,rfl⟩
     have hwn:IntKind.u64.wrap (arith BinOp.add ((k+1:Nat):Int) 1)=((k+1+1:Nat):Int):=by show IntKind.u64.wrap (((k+1:Nat):Int)+1)=_;rw[show(((k+1:Nat):Int)+1)=((k+1+1:Nat):Int)by omega,wrap_u64];omega
     refine ok_map (L':=[srP P4 xb b S,relP P4 yb r2,relP P4 rb r2,P4,diskP b d,pts b2 (.cells [.slice ps (ts.map tbV).length cs].toArray 29)]++R) entD ?_
     refine ok_loop' (γ:=Nat×HProp) (fun g ρ L=>g.1≤ts.length∧Ext P4 g.2∧
       Knows ρ [(2,.pointer (some ⟨b2,0,none⟩)),(7,.pointer (some ⟨xb,0,none⟩)),(10,.pointer (some ⟨rb,0,none⟩)),(12,.int .u64 ((k+1:Nat):Int)),(21,.pointer (some ⟨yb,0,none⟩)),(23,.int .i64 (g.1:Int))]∧
       L=[srP g.2 xb b S,relP g.2 yb r2,relP g.2 rb r2,g.2,diskP b d,pts b2 (.cells [.slice ps (ts.map tbV).length cs].toArray 29)]++R)
      (fun g=>ts.length-g.1) (0,P4) ⟨Nat.zero_le _,.refl _,⟨rfl,rfl,rfl,rfl,rfl,rfl,trivial⟩,rfl⟩ ?_
     rintro⟨t,Pt⟩ ρ L ⟨ht0,hEt,hkt,rfl⟩
     dsimp only at ht0 hEt hkt ⊢
     refine ok_regs hkt ?_
     cases t5:decide ((t:Int)<((ts.map tbV).length:Int))with
     |false=>
      repeat'(first|(refine gY ?_;intros)|(refine hY ?_ ?_<;>intro hgd)|(refine jY ?_ ?_<;>intro _)|fail)
      rw[hwn]
      repeat'(first|(refine gY ?_;intros)|(refine hY ?_ ?_<;>intro hgd)|(refine jY ?_ ?_<;>intro _)|fail)
      refine cont_map (L':=[srP Pt xb b S,relP Pt rb r2,Pt,diskP b d,pts b2 (.cells [.slice ps (ts.map tbV).length cs].toArray 29)]++R) entD ?_
      exact cont_back (k+1+1,r2,Pt) ⟨by dsimp only;omega,hn2,hEn.trans (hE35.trans (hEj.trans (hE4.trans hEt))),⟨rfl,rfl,rfl,rfl,trivial⟩,rfl⟩ (by dsimp only;omega)
     |true=>
      have htl:t<ts.length:=by have:=of_decide_eq_true t5;omega
      have hR1:=relRows_spec yb r2 t Pt hrok2 hrwf2
      have hR2:=fun Q=>relRows_spec rb r2 t Q hrok2 hrwf2
      repeat'(first|(refine gY ?_;intros)|(refine hY ?_ ?_<;>intro hgd)|(refine jY ?_ ?_<;>intro _)|fail)
      refine cl_Y (hR1) ?_
      rintro⟨⟨u1,hu1⟩,a,P5⟩ ⟨hE5,hq1,hio1⟩
      dsimp only at hE5 hq1 hio1 ⊢
      refine opsL_mapL (fun _ h=>relP_ext hE5 (b:=rb) (r:=r2) (Take.out1 (A:=relP Pt rb r2) takeD h)) ?_
      repeat'(first|(refine gY ?_;intros)|(refine hY ?_ ?_<;>intro hgd)|(refine jY ?_ ?_<;>intro _)|fail)
      refine cl_Y (hR2 P5) ?_
      rintro⟨⟨u2,hu2⟩,c,P6⟩ ⟨hE6,hq2,hio2⟩
      dsimp only at hE6 hq2 hio2 ⊢
      have hsm:=same14_spec a c u1 u2 (row 22 1 u1 (a.map rwV)) (row 22 1 u2 (c.map rwV)) P6 Vw.row Vw.row (fun x h=>hE6.vw (hq1 x h)) hq2 (by have:=(hio1.small17 hrok2).1;omega) (fun x h=>by have:=(hio1.small17 hrok2).2 x h;omega)
      rw[decide_eq_true (hio1.uniq hio2 rfl (List.Perm.refl _))]at hsm
      repeat'(first|(refine gY ?_;intros)|(refine hY ?_ ?_<;>intro hgd)|(refine jY ?_ ?_<;>intro _)|fail)
      refine cl_Y (hsm) ?_
      intro _ _
      repeat'(first|(refine gY ?_;intros)|(refine hY ?_ ?_<;>intro hgd)|(refine jY ?_ ?_<;>intro _)|fail)
      have hE56:=hE5.trans hE6
      refine cont_map (fun _ h=>srP_ext hE56 (xb:=xb) (b:=b) (S:=S) (Take.out1 (A:=srP Pt xb b S) takeD h)) ?_
      refine cont_map (fun _ h=>relP_ext hE6 (b:=yb) (r:=r2) (Take.out1 (A:=relP P5 yb r2) takeD h)) ?_
      refine cont_map (L':=[srP P6 xb b S,relP P6 yb r2,relP P6 rb r2,P6,diskP b d,pts b2 (.cells [.slice ps (ts.map tbV).length cs].toArray 29)]++R) entD ?_
      exact cont_back (t+1,P6) ⟨htl,hEt.trans hE56,⟨rfl,rfl,rfl,rfl,rfl,rfl,trivial⟩,rfl⟩ (by dsimp only;omega)
end Go.Proofs.YtmnafjonbeihiaaGreatDoor
