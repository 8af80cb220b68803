/- Texts merged: RlE RlF RlG RlH. -/
import Derived.Test.YtmnafjonbeihiaaGreatDoorG3
set_option linter.unusedSimpArgs false
set_option linter.unusedVariables false
set_option maxRecDepth 100000
namespace Go.Proofs.YtmnafjonbeihiaaGreatDoor
open Go Go.Fx Go.Proofs Go.Pl
theorem placeS_delN{s:Sc}{k t:Int}{l:List Vl}(h:k=3)(hl:l.length≠1):placeS s ⟨k,t,l⟩=none:=by
 unfold placeS
 rw[if_pos h]
 match l,hl with
 | [],_=>rfl
 | [v],h=>exact absurd rfl h
 |_::_::_,_=>rfl
theorem placeS_del{s:Sc}{t:Int}{v:Vl}:placeS s ⟨3,t,[v]⟩=if keyS s t v then some (t,v)else none:=by
 unfold placeS
 rw[if_pos rfl]
theorem placeS_lay{s:Sc}{k t:Int}{l:List Vl}(h:¬ k=3):placeS s ⟨k,t,l⟩=if rowS s t l then some (t,Pl.keyOf s t l)else none:=by
 unfold placeS
 rw[if_neg h]
theorem relNew_spec(vs:Value)(ts:List Tb)(A:HProp)(h:SV A vs ts)(hc:checkS (ts.map Tb.c)=true):
  FSpec Tryz.prog 23 [.agg #[vs]] [A] (Nat×HProp) (fun y=>Ext A y.2) (fun y=>.tuple #[.pointer (some ⟨y.1,0,none⟩),.int .i64 0]) (fun y=>[relP y.2 y.1 ⟨ts.map Tb.c,[],0⟩,y.2]):=by
 have hs:=sCheck_spec vs ts A h
 obtain⟨ds,_,haok,hl,hl12⟩:=checkS_ok hc
 rw[List.length_map]at hl hl12
 rw[hc,if_pos rfl]at hs
 have hcl:=relClone_spec vs ts A h hl (by omega) (fun t ht=>by have:=(haok.tab t ht).len;omega)
 refine spec_intro [] _ Tryz.func23 rfl Tryz.ntmps23 (by rfl) (fun w0 R=>?_)
 repeat'(first|(refine gY ?_;intros)|(refine hY ?_ ?_<;>intro hgd)|(refine jY ?_ ?_<;>intro _)|fail)
 refine cl_Y (hs) ?_
 intro _ _
 repeat'(first|(refine gY ?_;intros)|(refine hY ?_ ?_<;>intro hgd)|(refine jY ?_ ?_<;>intro _)|fail)
 refine cl_Y (hcl) ?_
 rintro⟨⟨v,hv⟩,tk,P⟩ ⟨hsv,hmc,hext⟩
 dsimp only at hsv hmc hext ⊢
 have hsv':=hsv
 obtain⟨_,_,_,⟨p,len,cap,rfl,hcap⟩⟩:=hsv
 repeat'(first|(refine gY ?_;intros)|(refine hY ?_ ?_<;>intro hgd)|(refine jY ?_ ?_<;>intro _)|fail)
 rename_i m b
 refine cont_map (fun _ h=>rel_in (b:=b) (r:=⟨ts.map Tb.c,[],0⟩) (P:=P) (vs:=.slice p len cap) (ts:=tk) (m:=m) (es:=[]) ⟨rfl,hsv',hmc,.nil⟩ (Take.out takeD h)) ?_
 (refine rt_Y (y:=(b,P)) (hrs:=Tryz.results23) (hv:=?_) (hφ:=?_))
 ·rfl
 ·exact hext
set_option maxHeartbeats 2000000 in
theorem place_spec(b:Nat)(vs:Value)(m:Nat)(turns:Int)(ts:List Tb)(P:HProp)(o:Opr)(w:Value)(hvc:vs.oneCell'=true)(hsv:SV P vs ts)(hU:UT P)(hw:Vw P 4 w (o.row.map valV))(hwf:∀ v∈o.row,v.wf)(hlen:o.row.length≤1000000):
  FSpec Tryz.prog 66 [.pointer (some ⟨b,0,none⟩),.agg #[.int .u8 o.kind,.int .i64 o.table,w]] [P,pts b (.cells [vs,.map (some m),.int .u64 turns].toArray 129)] Pc
   (fun q=>∀ p,placeS (ts.map Tb.c) o=some p→q=p) (fun q=>.tuple #[.agg (placeV q).toArray,.int .i64 (bif (placeS (ts.map Tb.c) o).isSome then 0 else 2)]) (fun _=>[P,pts b (.cells [vs,.map (some m),.int .u64 turns].toArray 129)]):=by
 obtain⟨kind,table,l⟩:=o
 dsimp only at hw hwf hlen ⊢
 have hll:(l.map valV).length=l.length:=by simp
 have hrow:=sRow_spec table l vs w ts P hsv hU hw hwf
 cases k3:decide (kind=3)with
 |true=>
  have e3:kind=3:=of_decide_eq_true k3
  subst e3
  cases n1:(!decide (((l.map valV).length:Int)=1))with
  |true=>
   have hne:l.length≠1:=by intro e;simp[e]at n1
   have hN:=placeS_delN (s:=ts.map Tb.c) (t:=table) (k:=3) rfl hne
   rw[hN]
   refine spec_intro [] _ Tryz.func66 rfl Tryz.ntmps66 (by rfl) (fun w0 R=>?_)
   refine ok_learn (VwIn.slice (VwIn.here hw)) ?_
   rintro⟨pw,cw,rfl⟩
   repeat'(first|(refine gY ?_;intros)|(refine hY ?_ ?_<;>intro hgd)|(refine jY ?_ ?_<;>intro _)|fail)
   (refine rt_Y (y:=(0,nul)) (hrs:=Tryz.results66) (hv:=?_) (hφ:=?_))
   ·rfl
   ·intro p hp;cases hp
  |false=>
   have h1:l.length=1:=by simp at n1;omega
   match l,h1 with
   | [v],_=>
    rw[placeS_del]
    have hv:=hwf v (List.mem_singleton.2 rfl)
    have hkey:=sKey_spec table v vs ts P hsv hU hv
    have hx:([v].map valV)[0]? =some (valV v):=rfl
    obtain⟨vk,vi,vr,vt⟩:=v
    dsimp only[valV]at hx hkey
    refine spec_intro [] _ Tryz.func66 rfl Tryz.ntmps66 (by rfl) (fun w0 R=>?_)
    refine ok_learn (VwIn.slice (VwIn.here hw)) ?_
    rintro⟨pw,cw,rfl⟩
    refine ok_learn (VwIn.base (VwIn.here hw) (by simp)) ?_
    rintro⟨bw,ow,rfl⟩
    repeat'(first|(refine gY ?_;intros)|(refine hY ?_ ?_<;>intro hgd)|(refine jY ?_ ?_<;>intro _)|fail)
    rename_i b3 b4
    refine ok_map (L':=[P,pts b4 (.cells (placeV (0,nul)).toArray 135),pts b3 (.cells [.int .u8 3,.int .i64 table,.slice (some ⟨bw,ow,none⟩) ([(⟨vk,vi,vr,vt⟩:Vl)].map valV).length cw].toArray 24),pts b (.cells [vs,.map (some m),.int .u64 turns].toArray 129)]++R) entD ?_
    have hlt:0<([(⟨vk,vi,vr,vt⟩:Vl)].map valV).length:=by simp
    dsimp only[placeV,valV,nul]
    (apply ok_draw [17];(focus(kernel_rfl));(focus((conv=>lhs;whnf);first|done|rfl));(focus(decide +kernel));(focus(exact(fun _ h=>h))))
    repeat'(first|(refine gY ?_;intros)|(refine hY ?_ ?_<;>intro hgd)|(refine jY ?_ ?_<;>intro _)|fail)
    refine clN_Y (hkey) ?_
    intro _ _
    repeat'(first|(refine gY ?_;intros)|(refine hY ?_ ?_<;>intro hgd)|(refine jY ?_ ?_<;>intro _)|fail)
    (refine rt_Y (y:=(table,⟨vk,vi,vr,vt⟩)) (hrs:=Tryz.results66) (hv:=?_) (hφ:=?_))
    ·cases keyS (ts.map Tb.c) table ⟨vk,vi,vr,vt⟩<;>rfl
    ·intro p hp
     split at hp
     ·cases hp;rfl
     ·cases hp
 |false=>
  have e3:¬ kind=3:=of_decide_eq_false k3
  rw[placeS_lay e3]
  cases hr:rowS (ts.map Tb.c) table l with
  |false=>
   rw[hr,cond_false]at hrow
   rw[if_neg (by decide)]
   refine spec_intro [] _ Tryz.func66 rfl Tryz.ntmps66 (by rfl) (fun w0 R=>?_)
   repeat'(first|(refine gY ?_;intros)|(refine hY ?_ ?_<;>intro hgd)|(refine jY ?_ ?_<;>intro _)|fail)
   refine cl_Y (hrow) ?_
   intro _ _
   repeat'(first|(refine gY ?_;intros)|(refine hY ?_ ?_<;>intro hgd)|(refine jY ?_ ?_<;>intro _)|fail)
   (refine rt_Y (y:=(0,nul)) (hrs:=Tryz.results66) (hv:=?_) (hφ:=?_))
   ·rfl
   ·intro p hp;cases hp
  |true=>
   rw[hr,cond_true]at hrow
   rw[if_pos rfl]
   obtain⟨hk1,hk2,hk3⟩:=rowS_key hr
   have hh:hasS (ts.map Tb.c) table=true:=by simp only[rowS,Bool.and_eq_true]at hr;exact hr.1
   obtain⟨tm,t,rfl,ht,hxt,htm,hta,hok,hmem⟩:=hasS_tb hh
   rw[hta]at hk2 hk3
   have k0:=hok.key0
   have kL:=hok.keyL
   generalize hko:Pl.keyOf (ts.map Tb.c) (tm:Int) l=v at hk1 hk2
   obtain⟨tn,cols,⟨cv,hcv⟩,key,ref,par⟩:=t
   dsimp only[tbV,Tb.c]at hxt hk2 hk3 k0 kL
   obtain⟨km,rfl⟩:∃ km:Nat,key=km:=⟨key.toNat,by omega⟩
   rw[Int.toNat_natCast]at hk2
   have hx:(l.map valV)[km]? =some (valV v):=by rw[List.getElem?_map,hk2];rfl
   have hn1:km<(l.map valV).length:=by omega
   obtain⟨vk,vi,vr,vt⟩:=v
   dsimp only[valV]at hx
   refine spec_intro [] _ Tryz.func66 rfl Tryz.ntmps66 (by rfl) (fun w0 R=>?_)
   refine ok_learn (VwIn.slice (VwIn.here hw)) ?_
   rintro⟨pw,cw,rfl⟩
   refine ok_learn (VwIn.base (VwIn.here hw) (by intro e;rw[e]at hn1;simp at hn1)) ?_
   rintro⟨bw,ow,rfl⟩
   have hv:=hsv.vw
   refine ok_learn (VwIn.slice (VwIn.here hv)) ?_
   rintro⟨pv,cv',rfl⟩
   refine ok_learn (VwIn.base (VwIn.here hv) (by intro e;rw[e]at htm;simp at htm)) ?_
   rintro⟨bv,ov,rfl⟩
   repeat'(first|(refine gY ?_;intros)|(refine hY ?_ ?_<;>intro hgd)|(refine jY ?_ ?_<;>intro _)|fail)
   refine cl_Y (hrow) ?_
   intro _ _
   repeat'(first|(refine gY ?_;intros)|(refine hY ?_ ?_<;>intro hgd)|(refine jY ?_ ?_<;>intro _)|fail)
   (refine rt_Y (y:=((tm:Int),⟨vk,vi,vr,vt⟩)) (hrs:=Tryz.results66) (hv:=?_) (hφ:=?_))
   ·rfl
   ·intro p hp;cases hp;rfl
end Go.Proofs.YtmnafjonbeihiaaGreatDoor
namespace Go.Proofs.YtmnafjonbeihiaaGreatDoor
open Go Go.Fx Go.Proofs Go.Pl
section
variable{X:Cx}{ops:Array Oper}{l st:List Nat}{T:List HProp}{N:Act→World→Prop}{i:Nat}{os:List Oper}{Ls:List HProp}{ds:List Deferred}{ρ:Regs}{L:List HProp}{ty:TypeId}{d:Nat}
theorem s_callT{f:FuncId}[K:FnI X.P f]{args:Array Operand}{at_:Array TypeId}{vs:List Value}{pre R:List HProp}{Y:Type}{φ:Y→Prop}{ret:Y→Value}{post:Y→List HProp}
  (ha:EvA ρ args.toList vs)(hs:FSpecM X.w0.m X.P f vs pre Y φ ret post)(ht:Take L pre R)(hst:st.contains i=false)(hT:∀ y,φ y→∀ h,SatL (post y++R) h→SatL T h)(hd:Nat.blt d X.nt=true)(hb:l.contains i=false)
  (h:∀ y,φ y→OpsL X ops ⟨l,st,T⟩ N (i+1) os (post y++R) ds (upd ρ d (ret y)) (post y++R)):Op1 X ops ⟨l,st,T⟩ N i (some d) (.call {callee:=.value (.func f),args:=args,argTypes:=at_}) ty os Ls ds ρ L:=
 op_effT (e_call ha hs ht) hst hT (fun _ e=>by cases e;exact hd) hb h
theorem a_lookupL{mt kt et:Nat}{z:Value}{K:KT}[I:Mp X.P mt kt et][J:KeyT X.P kt K][Z:Zr X.P et z]{x y:Operand}{m:Nat}{a:K.α}{q:List (K.α×Value)}{ok:Bool}{o:Option Value}{v:Value}(hst:st.contains i=false)
  (hx:ev ρ x= .map (some m))(hy:ev ρ y=K.enc a)(hm:MpIn K m q Ls)(ho:getK K a q=o)(hv:lookOf ok z o=v)(hd:Nat.blt d X.nt=true)(h:OpsL X ops ⟨l,st,T⟩ N (i+1) os Ls ds (upd ρ d v) L):
  Op1 X ops ⟨l,st,T⟩ N i (some d) (.lookup mt x y ok) ty os Ls ds ρ L:=by
 subst hv ho
 refine op_quietL hst (fun _ e=>by cases e) (fun _ _ _=>by simp[qk]) (fun x hx=>by cases hx;exact hd) ?_ h
 intro pos after gd w hw
 have hs:=hw.resolve_left (by simp[qk])
 obtain⟨es,clock,hb',hk⟩:=hm.satL hs.heap
 have hb:w.heap[m]? =some (.map es clock):=hb'
 simp only[execOp,hx,hy,Instr.lookup,Sem.run_bind,run_underlying_of I.und,Result.andThen_ok,MapKept.run_getObj_map (P:=X.P) hb,Sem.run_pure,J.check,J.find a es.toList q w hk.kv]
 rw[← getK_ix a q 0]
 cases ixK K a q 0 with
 |some x=>cases ok<;>rfl
 |none=>simp only[Sem.run_bind,Z.run_zero,Result.andThen_ok,Sem.run_pure];cases ok<;>rfl
end
abbrev V1s:={v:Value // v.oneCell'=true}
def Rl.doG(op:Rl→Pc→List Vl→Rl×Int)(r:Rl)(o:Opr):Rl×List Vl×List Vl×Int:=
 match placeS r.s o with
 |none=>(r,[],[],2)
 |some p=>if(op r p o.row).2=0 then({(op r p o.row).1 with turns:=IntKind.u64.wrap ((op r p o.row).1.turns+1)},(aget p r.rows).getD [],(aget p (op r p o.row).1.rows).getD [],0)else(r,[],[],(op r p o.row).2)
def opsE:List (Int×Value):=[(1,fv 112),(2,fv 113),(3,fv 114)]
theorem vw_nil4{P:HProp}:Vw P 4 (.slice none 0 0) (([]:List Vl).map valV):=fun h _=>⟨fun _ hx=>by simp at hx,none,0,rfl,.inl rfl,fun _=>rfl,fun b o hp=>by cases hp⟩
set_option maxHeartbeats 4000000 in
theorem DoG_spec(f:FuncId)[FnI Tryz.prog f](op:Rl→Pc→List Vl→Rl×Int)(hact:ActSpec f op)(b:Nat)(r:Rl)(o:Opr)(w:Value)(P:HProp)(hk:getK (KInt .u8) o.kind opsE=some (fv f))(hU:UT P)
  (hw:Vw P 4 w (o.row.map valV))(hwc:w.oneCell'=true)(hwf:∀ v∈o.row,v.wf)(hlen:o.row.length≤1000000)(hsame:∀ p,(op r p o.row).2≠0→(op r p o.row).1=r)
  (hll:∀ p l,aget p (op r p o.row).1.rows=some l→l.length≤1000000):
  FSpec Tryz.prog 25 [.pointer (some ⟨b,0,none⟩),.agg #[.int .u8 o.kind,.int .i64 o.table,w]] [relP P b r,P] (V1s×V1s×HProp)
   (fun y=>Ext P y.2.2∧Vw y.2.2 4 y.1.1 ((Rl.doG op r o).2.1.map valV)) (fun y=>.tuple #[y.1.1,y.2.1.1,.int .i64 (Rl.doG op r o).2.2.2])
   (fun y=>[row 93 4 y.2.1.1 ((Rl.doG op r o).2.2.1.map valV),relP y.2.2 b (Rl.doG op r o).1,y.2.2]):=by
 refine fspec_ex ?_
 rintro⟨⟨vs,ts,m,es⟩,hy⟩
 have hy':=hy
 obtain⟨hvc,hsv,hss,hes⟩:=hy
 dsimp only at hvc hsv hss hes
 unfold relL
 dsimp only
 have hpl:=place_spec b vs m r.turns ts P o w hvc hsv hU hw hwf hlen
 rw[hss]at hpl
 have hget:=fun p=>hes.get (p:=p)
 have hops:=ops_spec
 unfold opsE at hk
 obtain⟨kind,table,l⟩:=o
 dsimp only at hpl hk hw hwf hlen hsame hll
 generalize hD:Rl.doG op r ⟨kind,table,l⟩=D
 refine spec_intro [] _ Tryz.func25 rfl Tryz.ntmps25 (by rfl) (fun w0 R=>?_)
 repeat'(first|(refine gY ?_;intros)|(refine hY ?_ ?_<;>intro hgd)|(refine jY ?_ ?_<;>intro _)|fail)
 rename_i b3
 refine ok_drawS (cv:=[]) [] [2] ([pts b3 (.cells [.int .u8 kind,.int .i64 table,w].toArray 24)]) _ (by kernel_rfl) rfl (by decide +kernel) (fun _ h=>h) (takeS) ?_
 refine ops_run (s_callT (vs:=[]) (pre:=[]) .nil hops Take.nil rfl (fun _ _ _ h=>takePre takeD _ h) rfl rfl ?_)
 intro mo _
 repeat'(first|(refine ro_Y ?_;intros)|fail)
 refine ops_run (a_lookupL (K:=KInt .u8) rfl rfl rfl (MpIn.here (fun _ h=>h)) hk rfl rfl ?_)
 repeat'(first|(refine gY ?_;intros)|(refine hY ?_ ?_<;>intro hgd)|(refine jY ?_ ?_<;>intro _)|fail)
 refine cl_Y (hpl) ?_
 rintro⟨qt,⟨qk,qi,qr,qs⟩⟩ hq
 dsimp only[placeV,valV]
 cases hp:placeS r.s ⟨kind,table,l⟩with
 |none=>
  have hDe:D=(r,[],[],2):=by rw[← hD];unfold Rl.doG;rw[hp]
  subst hDe
  simp only[Option.isSome_none,cond_false]
  repeat'(first|(refine gY ?_;intros)|(refine hY ?_ ?_<;>intro hgd)|(refine jY ?_ ?_<;>intro _)|fail)
  refine cont_map (fun _ h=>rel_in (b:=b) (r:=r) hy' (Take.out takeD h)) ?_
  refine cont_map (fun _ h=>nilRow (e:=93) (n:=4) h) ?_
  (refine rt_Y (y:=(⟨.slice none 0 0,rfl⟩,⟨.slice none 0 0,rfl⟩,P)) (hrs:=Tryz.results25) (hv:=?_) (hφ:=?_))
  ·rfl
  ·exact⟨Ext.refl P,vw_nil4⟩
 |some p=>
  have hqp:=hq p hp
  subst hqp
  simp only[Option.isSome_some,cond_true]
  have hacts:=hact P b r (qt,⟨qk,qi,qr,qs⟩) l w hw hlen
  have hget:=hget (qt,⟨qk,qi,qr,qs⟩)
  have hsame:=hsame (qt,⟨qk,qi,qr,qs⟩)
  have hll:=hll (qt,⟨qk,qi,qr,qs⟩)
  have hDe:D=if(op r (qt,⟨qk,qi,qr,qs⟩) l).2=0 then({(op r (qt,⟨qk,qi,qr,qs⟩) l).1 with turns:=IntKind.u64.wrap ((op r (qt,⟨qk,qi,qr,qs⟩) l).1.turns+1)},(aget (qt,⟨qk,qi,qr,qs⟩) r.rows).getD [],(aget (qt,⟨qk,qi,qr,qs⟩) (op r (qt,⟨qk,qi,qr,qs⟩) l).1.rows).getD [],0)else(r,[],[],(op r (qt,⟨qk,qi,qr,qs⟩) l).2):=by
   rw[← hD];unfold Rl.doG;rw[hp]
  generalize op r (qt,⟨qk,qi,qr,qs⟩) l=res at hacts hsame hll hDe
  obtain⟨r',e⟩:=res
  dsimp only[placeV,valV]at hacts hsame hll hDe
  rcases hget with⟨hg,ha⟩|⟨v,l',hg,ha,hwas⟩
  ·have hwas:Vw P 4 (.slice none 0 0) (([]:List Vl).map valV):=vw_nil4
   repeat'(first|(refine gY ?_;intros)|(refine hY ?_ ?_<;>intro hgd)|(refine jY ?_ ?_<;>intro _)|fail)
   refine opsL_map (fun _ h=>rel_in (b:=b) (r:=r) hy' (Take.out takeD h)) ?_
   refine clV_Y (vspec_fn hacts) ?_
   intro P' hext
   repeat'(first|(refine ro_Y ?_;intros)|fail)
   refine cont_ex (M:=relL P' b r') selD ?_
   rintro⟨⟨vs',ts',m',es'⟩,hy2⟩
   have hy2':=hy2
   obtain⟨hvc2,hsv2,hss2,hes2⟩:=hy2
   dsimp only at hvc2 hsv2 hss2 hes2
   unfold relL
   dsimp only
   cases he:decide (e=0)with
   |false=>
    have he0:=of_decide_eq_false he
    have hne:(!decide (e=0))=true:=by rw[he];rfl
    have hrr:=hsame he0
    rw[if_neg he0]at hDe
    subst hDe
    subst hrr
    repeat'(first|(refine gY ?_;intros)|(refine hY ?_ ?_<;>intro hgd)|(refine jY ?_ ?_<;>intro _)|fail)
    refine cont_map (fun _ h=>rel_in (b:=b) (r:=r') hy2' (Take.out takeD h)) ?_
    refine cont_map (fun _ h=>nilRow (e:=93) (n:=4) h) ?_
    (refine rt_Y (y:=(⟨.slice none 0 0,rfl⟩,⟨.slice none 0 0,rfl⟩,P')) (hrs:=Tryz.results25) (hv:=?_) (hφ:=?_))
    ·rfl
    ·exact⟨hext,vw_nil4⟩
   |true=>
    have he0:=of_decide_eq_true he
    rw[if_pos he0,ha]at hDe
    simp only[Option.getD_some,Option.getD_none]at hDe
    subst he0
    rcases hes2.get (p:=(qt,⟨qk,qi,qr,qs⟩))with⟨hg2,ha2⟩|⟨v2,l2,hg2,ha2,hv2⟩
    ·rw[ha2]at hDe
     simp only[Option.getD_none]at hDe
     subst hDe
     have hcl:=cloneV_spec (.slice none 0 0) P' [] vw_nil4 (by simp)
     repeat'(first|(refine gY ?_;intros)|(refine hY ?_ ?_<;>intro hgd)|(refine jY ?_ ?_<;>intro _)|fail)
     refine cl_Y (hcl) ?_
     rintro⟨va,hva⟩ _
     repeat'(first|(refine gY ?_;intros)|(refine hY ?_ ?_<;>intro hgd)|(refine jY ?_ ?_<;>intro _)|fail)
     refine cont_map (fun _ h=>rel_in (b:=b) (r:={r' with turns:=IntKind.u64.wrap (r'.turns+1)}) (P:=P') (vs:=vs') (ts:=ts') (m:=m') (es:=es') ⟨hvc2,hsv2,hss2,hes2⟩ (Take.out takeD h)) ?_
     (refine rt_Y (y:=(⟨.slice none 0 0,rfl⟩,⟨va,hva⟩,P')) (hrs:=Tryz.results25) (hv:=?_) (hφ:=?_))
     ·rfl
     ·exact⟨hext,hext.vw hwas⟩
    ·have hl2:=hll l2 ha2
     rw[ha2]at hDe
     simp only[Option.getD_some]at hDe
     subst hDe
     have hcl:=cloneV_spec v2 P' l2 hv2 hl2
     repeat'(first|(refine gY ?_;intros)|(refine hY ?_ ?_<;>intro hgd)|(refine jY ?_ ?_<;>intro _)|fail)
     refine cl_Y (hcl) ?_
     rintro⟨va,hva⟩ _
     repeat'(first|(refine gY ?_;intros)|(refine hY ?_ ?_<;>intro hgd)|(refine jY ?_ ?_<;>intro _)|fail)
     refine cont_map (fun _ h=>rel_in (b:=b) (r:={r' with turns:=IntKind.u64.wrap (r'.turns+1)}) (P:=P') (vs:=vs') (ts:=ts') (m:=m') (es:=es') ⟨hvc2,hsv2,hss2,hes2⟩ (Take.out takeD h)) ?_
     (refine rt_Y (y:=(⟨.slice none 0 0,rfl⟩,⟨va,hva⟩,P')) (hrs:=Tryz.results25) (hv:=?_) (hφ:=?_))
     ·rfl
     ·exact⟨hext,hext.vw hwas⟩
  ·refine ops_learn (VwIn.slice (n:=4) (v:=v) (xs:=l'.map valV) (VwIn.here hwas)) ?_
   rintro⟨pv,cv,rfl⟩
   repeat'(first|(refine gY ?_;intros)|(refine hY ?_ ?_<;>intro hgd)|(refine jY ?_ ?_<;>intro _)|fail)
   refine opsL_map (fun _ h=>rel_in (b:=b) (r:=r) hy' (Take.out takeD h)) ?_
   refine clV_Y (vspec_fn hacts) ?_
   intro P' hext
   repeat'(first|(refine ro_Y ?_;intros)|fail)
   refine cont_ex (M:=relL P' b r') selD ?_
   rintro⟨⟨vs',ts',m',es'⟩,hy2⟩
   have hy2':=hy2
   obtain⟨hvc2,hsv2,hss2,hes2⟩:=hy2
   dsimp only at hvc2 hsv2 hss2 hes2
   unfold relL
   dsimp only
   cases he:decide (e=0)with
   |false=>
    have he0:=of_decide_eq_false he
    have hne:(!decide (e=0))=true:=by rw[he];rfl
    have hrr:=hsame he0
    rw[if_neg he0]at hDe
    subst hDe
    subst hrr
    repeat'(first|(refine gY ?_;intros)|(refine hY ?_ ?_<;>intro hgd)|(refine jY ?_ ?_<;>intro _)|fail)
    refine cont_map (fun _ h=>rel_in (b:=b) (r:=r') hy2' (Take.out takeD h)) ?_
    refine cont_map (fun _ h=>nilRow (e:=93) (n:=4) h) ?_
    (refine rt_Y (y:=(⟨.slice none 0 0,rfl⟩,⟨.slice none 0 0,rfl⟩,P')) (hrs:=Tryz.results25) (hv:=?_) (hφ:=?_))
    ·rfl
    ·exact⟨hext,vw_nil4⟩
   |true=>
    have he0:=of_decide_eq_true he
    rw[if_pos he0,ha]at hDe
    simp only[Option.getD_some,Option.getD_none]at hDe
    subst he0
    rcases hes2.get (p:=(qt,⟨qk,qi,qr,qs⟩))with⟨hg2,ha2⟩|⟨v2,l2,hg2,ha2,hv2⟩
    ·rw[ha2]at hDe
     simp only[Option.getD_none]at hDe
     subst hDe
     have hcl:=cloneV_spec (.slice none 0 0) P' [] vw_nil4 (by simp)
     repeat'(first|(refine gY ?_;intros)|(refine hY ?_ ?_<;>intro hgd)|(refine jY ?_ ?_<;>intro _)|fail)
     refine cl_Y (hcl) ?_
     rintro⟨va,hva⟩ _
     repeat'(first|(refine gY ?_;intros)|(refine hY ?_ ?_<;>intro hgd)|(refine jY ?_ ?_<;>intro _)|fail)
     refine cont_map (fun _ h=>rel_in (b:=b) (r:={r' with turns:=IntKind.u64.wrap (r'.turns+1)}) (P:=P') (vs:=vs') (ts:=ts') (m:=m') (es:=es') ⟨hvc2,hsv2,hss2,hes2⟩ (Take.out takeD h)) ?_
     (refine rt_Y (y:=(⟨.slice pv (l'.map valV).length cv,rfl⟩,⟨va,hva⟩,P')) (hrs:=Tryz.results25) (hv:=?_) (hφ:=?_))
     ·rfl
     ·exact⟨hext,hext.vw hwas⟩
    ·have hl2:=hll l2 ha2
     rw[ha2]at hDe
     simp only[Option.getD_some]at hDe
     subst hDe
     have hcl:=cloneV_spec v2 P' l2 hv2 hl2
     repeat'(first|(refine gY ?_;intros)|(refine hY ?_ ?_<;>intro hgd)|(refine jY ?_ ?_<;>intro _)|fail)
     refine cl_Y (hcl) ?_
     rintro⟨va,hva⟩ _
     repeat'(first|(refine gY ?_;intros)|(refine hY ?_ ?_<;>intro hgd)|(refine jY ?_ ?_<;>intro _)|fail)
     refine cont_map (fun _ h=>rel_in (b:=b) (r:={r' with turns:=IntKind.u64.wrap (r'.turns+1)}) (P:=P') (vs:=vs') (ts:=ts') (m:=m') (es:=es') ⟨hvc2,hsv2,hss2,hes2⟩ (Take.out takeD h)) ?_
     (refine rt_Y (y:=(⟨.slice pv (l'.map valV).length cv,rfl⟩,⟨va,hva⟩,P')) (hrs:=Tryz.results25) (hv:=?_) (hφ:=?_))
     ·rfl
     ·exact⟨hext,hext.vw hwas⟩
end Go.Proofs.YtmnafjonbeihiaaGreatDoor
namespace Go.Proofs.YtmnafjonbeihiaaGreatDoor
open Go Go.Fx Go.Proofs Go.Pl
theorem row_len{r:Rl}(h:r.Ok){p:Pc}{l:List Vl}(ha:aget p r.rows=some l):l.length≤8:=by
 have hr:=(h.rows _ (aget_mem ha)).row
 obtain⟨_,_,h3⟩:=rowS_key hr
 simp only[rowS,Bool.and_eq_true]at hr
 obtain⟨_,_,_,hok,_⟩:=hasS_tab hr.1
 have:=hok.len
 dsimp only at h3
 omega
theorem put_len{r:Rl}(h:r.Ok){p q:Pc}{row l:List Vl}(hz:row.length≤1000000)(ha:aget q (aput p row r.rows)=some l):l.length≤1000000:=by
 rw[aget_put]at ha
 split at ha
 ·cases ha;exact hz
 ·have:=row_len h ha;omega
theorem doOp_ins{r:Rl}{t:Int}{l:List Vl}:r.doOp ⟨1,t,l⟩=Rl.doG Rl.ins r ⟨1,t,l⟩:=by
 unfold Rl.doOp Rl.doG
 rw[if_neg (by simp)]
 cases placeS r.s ⟨1,t,l⟩with
 |none=>rfl
 |some p=>
  unfold Rl.ins
  dsimp only
  by_cases h1:(aget p r.rows).isSome=true
  ·simp[h1]
  ·by_cases h2:200≤r.rows.length
   ·simp[h1,h2]
   ·have h1':(aget p r.rows).isSome=false:=by simpa using h1
    simp[h1',h2,aget_put]
theorem doOp_upd{r:Rl}{t:Int}{l:List Vl}:r.doOp ⟨2,t,l⟩=Rl.doG Rl.upd r ⟨2,t,l⟩:=by
 unfold Rl.doOp Rl.doG
 rw[if_neg (by simp)]
 cases placeS r.s ⟨2,t,l⟩with
 |none=>rfl
 |some p=>
  unfold Rl.upd
  dsimp only
  cases h1:(aget p r.rows).isSome with
  |true=>simp[aget_put]
  |false=>simp
theorem doOp_rem{r:Rl}(hok:r.Ok){t:Int}{l:List Vl}:r.doOp ⟨3,t,l⟩=Rl.doG Rl.rem r ⟨3,t,l⟩:=by
 unfold Rl.doOp Rl.doG
 rw[if_neg (by simp)]
 cases placeS r.s ⟨3,t,l⟩with
 |none=>rfl
 |some p=>
  unfold Rl.rem
  dsimp only
  cases h1:(aget p r.rows).isSome with
  |true=>simp[aget_del _ _ hok.nd]
  |false=>simp
set_option maxHeartbeats 1000000 in
theorem Do_kind(b:Nat)(r:Rl)(o:Opr)(w:Value)(P:HProp)(h1:o.kind≠1)(h2:o.kind≠2)(h3:o.kind≠3)(hwc:w.oneCell'=true):
  FSpec Tryz.prog 25 [.pointer (some ⟨b,0,none⟩),.agg #[.int .u8 o.kind,.int .i64 o.table,w]] [relP P b r,P] Unit (fun _=>True) (fun y=>.tuple #[.slice none 0 0,.slice none 0 0,.int .i64 2]) (fun _=>[relP P b r,P]):=by
 obtain⟨kind,table,l⟩:=o
 dsimp only at h1 h2 h3 ⊢
 have hops:=ops_spec
 have hk:getK (KInt .u8) kind [(1,fv 112),(2,fv 113),(3,fv 114)]=none:=by
  simp only[getK]
  rw[if_neg h1,if_neg h2,if_neg h3]
 refine spec_intro [] _ Tryz.func25 rfl Tryz.ntmps25 (by rfl) (fun w0 R=>?_)
 repeat'(first|(refine gY ?_;intros)|(refine hY ?_ ?_<;>intro hgd)|(refine jY ?_ ?_<;>intro _)|fail)
 rename_i b3
 refine ok_drawS (cv:=[]) [] [2] ([pts b3 (.cells [.int .u8 kind,.int .i64 table,w].toArray 24)]) _ (by kernel_rfl) rfl (by decide +kernel) (fun _ h=>h) (takeS) ?_
 refine ops_run (s_callT (vs:=[]) (pre:=[]) .nil hops Take.nil rfl (fun _ _ _ h=>takePre takeD _ h) rfl rfl ?_)
 intro mo _
 repeat'(first|(refine ro_Y ?_;intros)|fail)
 refine ops_run (a_lookupL (K:=KInt .u8) rfl rfl rfl (MpIn.here (fun _ h=>h)) hk rfl rfl ?_)
 repeat'(first|(refine gY ?_;intros)|(refine hY ?_ ?_<;>intro hgd)|(refine jY ?_ ?_<;>intro _)|fail)
 (refine rt_Y (y:=()) (hrs:=Tryz.results25) (hv:=?_) (hφ:=?_))
 ·rfl
 ·trivial
theorem relDo_spec(b:Nat)(r:Rl)(o:Opr)(w:Value)(P:HProp)(hok:r.Ok)(hU:UT P)(hw:Vw P 4 w (o.row.map valV))(hwc:w.oneCell'=true)(hwf:∀ v∈o.row,v.wf)(hlen:o.row.length≤1000000):
  FSpec Tryz.prog 25 [.pointer (some ⟨b,0,none⟩),.agg #[.int .u8 o.kind,.int .i64 o.table,w]] [relP P b r,P] (V1s×V1s×HProp)
   (fun y=>Ext P y.2.2∧Vw y.2.2 4 y.1.1 ((r.doOp o).2.1.map valV)) (fun y=>.tuple #[y.1.1,y.2.1.1,.int .i64 (r.doOp o).2.2.2])
   (fun y=>[row 93 4 y.2.1.1 ((r.doOp o).2.2.1.map valV),relP y.2.2 b (r.doOp o).1,y.2.2]):=by
 by_cases h1:o.kind=1
 ·obtain⟨k,t,l⟩:=o
  dsimp only at h1 hw hwf hlen ⊢
  subst h1
  rw[doOp_ins]
  exact DoG_spec _ Rl.ins insert_spec b r ⟨1,t,l⟩ w P rfl hU hw hwc hwf hlen (fun p h=>by
   unfold Rl.ins at h ⊢
   try dsimp only at h ⊢
   split
   ·rfl
   ·split
    ·rfl
    ·rename_i a c;rw[if_neg a,if_neg c]at h;exact absurd rfl h) (fun p l' h=>by
   unfold Rl.ins at h
   try dsimp only at h
   split at h
   ·have:=row_len hok h;omega
   ·split at h
    ·have:=row_len hok h;omega
    ·exact put_len hok hlen h)
 by_cases h2:o.kind=2
 ·obtain⟨k,t,l⟩:=o
  dsimp only at h2 hw hwf hlen ⊢
  subst h2
  rw[doOp_upd]
  exact DoG_spec _ Rl.upd update_spec b r ⟨2,t,l⟩ w P rfl hU hw hwc hwf hlen (fun p h=>by
   unfold Rl.upd at h ⊢
   try dsimp only at h ⊢
   split
   ·rename_i a;rw[if_pos a]at h;exact absurd rfl h
   ·rfl) (fun p l' h=>by
   unfold Rl.upd at h
   try dsimp only at h
   split at h
   ·exact put_len hok hlen h
   ·have:=row_len hok h;omega)
 by_cases h3:o.kind=3
 ·obtain⟨k,t,l⟩:=o
  dsimp only at h3 hw hwf hlen ⊢
  subst h3
  rw[doOp_rem hok]
  exact DoG_spec _ Rl.rem rlRemove_spec b r ⟨3,t,l⟩ w P rfl hU hw hwc hwf hlen (fun p h=>by
   unfold Rl.rem at h ⊢
   try dsimp only at h ⊢
   split
   ·rename_i a;rw[if_pos a]at h;exact absurd rfl h
   ·rfl) (fun p l' h=>by
   unfold Rl.rem at h
   try dsimp only at h
   split at h
   ·rw[aget_del _ _ hok.nd]at h
    split at h
    ·cases h
    ·have:=row_len hok h;omega
   ·have:=row_len hok h;omega)
 ·have hD:r.doOp o=(r,[],[],2):=by
   unfold Rl.doOp
   rw[if_pos ⟨h1,h2,h3⟩]
  rw[hD]
  exact(Do_kind b r o w P h1 h2 h3 hwc).conseq (fun _ _ s=>s) (fun _ _=>⟨(⟨.slice none 0 0,rfl⟩,⟨.slice none 0 0,rfl⟩,P),⟨Ext.refl P,vw_nil4⟩,rfl,fun R h s=>nilRow s⟩)
theorem relTurns_spec(b:Nat)(r:Rl)(P:HProp):FSpec Tryz.prog 94 [.pointer (some ⟨b,0,none⟩)] [relP P b r] Unit (fun _=>True) (fun _=>.int .u64 r.turns) (fun _=>[relP P b r]):=by
 refine fspec_ex ?_
 rintro⟨⟨vs,ts,m,es⟩,hy⟩
 unfold relL
 dsimp only
 refine spec_intro [] _ Tryz.func94 rfl Tryz.ntmps94 (by rfl) (fun w0 R=>?_)
 repeat'(first|(refine gY ?_;intros)|(refine hY ?_ ?_<;>intro hgd)|(refine jY ?_ ?_<;>intro _)|fail)
 refine cont_map (fun _ h=>rel_in (b:=b) (r:=r) hy (Take.out takeD h)) ?_
 (refine rt_Y (y:=()) (hrs:=Tryz.results94) (hv:=?_) (hφ:=?_))
 ·rfl
 ·trivial
end Go.Proofs.YtmnafjonbeihiaaGreatDoor
namespace Go.Proofs.YtmnafjonbeihiaaGreatDoor
open Go Go.Fx Go.Proofs Go.Pl
theorem EsOk.mem{P:HProp}{p:Pc}{v:Value}{es:List (Pc×Value)}{rows:RR}(h:EsOk P es rows)(hm:(p,v)∈es):∃ l,(p,l)∈rows∧Vw P 4 v (l.map valV):=by
 induction h with
 |nil=>cases hm
 | @cons a u k es rows h hs ih=>
  rcases List.mem_cons.1 hm with e|hm
  ·cases e;exact⟨k,List.mem_cons_self ..,h⟩
  ·obtain⟨l,hl,hv⟩:=ih hm;exact⟨l,List.mem_cons_of_mem _ hl,hv⟩
theorem EsOk.memR{P:HProp}{p:Pc}{l:List Vl}{es:List (Pc×Value)}{rows:RR}(h:EsOk P es rows)(hm:(p,l)∈rows):∃ v,(p,v)∈es:=by
 induction h with
 |nil=>cases hm
 | @cons a u k es rows h hs ih=>
  rcases List.mem_cons.1 hm with e|hm
  ·cases e;exact⟨u,List.mem_cons_self ..⟩
  ·obtain⟨v,hv⟩:=ih hm;exact⟨v,List.mem_cons_of_mem _ hv⟩
theorem row_uniq{r:Rl}(h:r.Ok){p:Pc}{l k:List Vl}(h1:(p,l)∈r.rows)(h2:(p,k)∈r.rows):l=k:=by
 have key:∀ (rows:RR),(rows.map (·.1)).Nodup→(p,l)∈rows→aget p rows=some l:=by
  intro rows
  induction rows with
  |nil=>intro _ h;cases h
  |cons x rows ih=>
   intro hn hm
   obtain⟨a,m⟩:=x
   simp only[List.map_cons,List.nodup_cons]at hn
   rcases List.mem_cons.1 hm with e|hm
   ·cases e;simp[aget]
   ·have:p≠a:=fun e=>hn.1 (by rw[← e];exact List.mem_map_of_mem (f:=(·.1)) hm)
    simp only[aget];rw[if_neg this];exact ih hn.2 hm
 have key2:∀ (rows:RR),(rows.map (·.1)).Nodup→(p,k)∈rows→aget p rows=some k:=by
  intro rows
  induction rows with
  |nil=>intro _ h;cases h
  |cons x rows ih=>
   intro hn hm
   obtain⟨a,m⟩:=x
   simp only[List.map_cons,List.nodup_cons]at hn
   rcases List.mem_cons.1 hm with e|hm
   ·cases e;simp[aget]
   ·have:p≠a:=fun e=>hn.1 (by rw[← e];exact List.mem_map_of_mem (f:=(·.1)) hm)
    simp only[aget];rw[if_neg this];exact ih hn.2 hm
 have e1:=key _ h.nd h1
 have e2:=key2 _ h.nd h2
 rw[e1]at e2;exact Option.some.inj e2
set_option maxHeartbeats 4000000 in
theorem relWhole_spec(b:Nat)(r:Rl)(P:HProp)(hok:r.Ok):FSpec Tryz.prog 26 [.pointer (some ⟨b,0,none⟩)] [relP P b r,P] Unit (fun _=>True) (fun _=>.int .i64 (bif r.whole then 0 else 140)) (fun _=>[relP P b r,P]):=by
 refine fspec_ex ?_
 rintro⟨⟨vs,ts,m,es⟩,hy⟩
 have hy':=hy
 obtain⟨hvc,hsv,hss,hes⟩:=hy
 dsimp only at hvc hsv hss hes
 unfold relL
 dsimp only
 have hv:=hsv.vw
 refine spec_intro [] _ Tryz.func26 rfl Tryz.ntmps26 (by rfl) (fun w0 R=>?_)
 refine ok_learn (VwIn.slice (VwIn.there (VwIn.there (VwIn.here hv)))) ?_
 rintro⟨pv,cv,rfl⟩
 repeat'(first|(refine gY ?_;intros)|(refine hY ?_ ?_<;>intro hgd)|(refine jY ?_ ?_<;>intro _)|fail)
 rename_i it
 refine ok_loop' (γ:=List (Pc×Value)) (fun rem ρ L=>∃ (cur:Option (Pc×Value)),(∀ x∈rem,x∈es)∧(∀ x∈es,x∈rem∨∀ l,(x.1,l)∈r.rows→refOk r.s r.rows (x.1,l)=true)∧Knows ρ [(0,.pointer (some ⟨b,0,none⟩)),(2,.int .i64 0),(14,.pointer (some ⟨it,0,none⟩))]∧L=[rangeK KPlace it m es rem cur,pts b (.cells [.slice pv (ts.map tbV).length cv,.map (some m),.int .u64 r.turns].toArray 129),P]++R) (fun rem=>rem.length) es
  ⟨none,fun _ h=>h,fun _ h=>.inl h,⟨rfl,rfl,rfl,trivial⟩,rfl⟩ ?_
 rintro rem ρ L ⟨cur,hsub,hdone,hk,rfl⟩
 refine ok_regs hk ?_
 repeat'(first|(refine gY ?_;intros)|(refine hY ?_ ?_<;>intro hgd)|(refine jY ?_ ?_<;>intro _)|fail)
 refine nx_Y ?_ ?_
 ·intro hrem
  subst hrem
  have hw:r.whole=true:=by
   unfold Rl.whole
   rw[List.all_eq_true]
   rintro⟨p,l⟩ hm
   obtain⟨v,hv⟩:=hes.memR hm
   exact((hdone _ hv).resolve_left (by simp)) l hm
  rw[hw,cond_true]
  repeat'(first|(refine gY ?_;intros)|(refine hY ?_ ?_<;>intro hgd)|(refine jY ?_ ?_<;>intro _)|fail)
  refine cont_map (fun _ h=>(Take.out1 (A:=rangeK KPlace it m es [] cur) takeD h).headMono fun _ h=>rangeK.map h) ?_
  refine cont_map (fun _ h=>rel_in (b:=b) (r:=r) hy' (Take.out takeD h)) ?_
  (refine rt_Y (y:=()) (hrs:=Tryz.results26) (hv:=?_) (hφ:=?_))
  ·rfl
  ·trivial
 ·intro x pre post hrem
  subst hrem
  have hxm:x∈es:=hsub x (by simp)
  have hsub2:∀ y∈pre++post,y∈es:=fun y hy=>hsub y (by rcases List.mem_append.1 hy with h|h<;>simp[h])
  have hdone2:(∀ l,(x.1,l)∈r.rows→refOk r.s r.rows (x.1,l)=true)→∀ y∈es,y∈pre++post∨∀ l,(y.1,l)∈r.rows→refOk r.s r.rows (y.1,l)=true:=fun hx y hy=>by
   rcases hdone y hy with h|h
   ·rcases List.mem_append.1 h with h|h
    ·exact .inl (List.mem_append_left _ h)
    ·rcases List.mem_cons.1 h with e|h
     ·subst e;exact .inr hx
     ·exact .inl (List.mem_append_right _ h)
   ·exact .inr h
  obtain⟨p,v⟩:=x
  obtain⟨l,hlm,hvl⟩:=hes.mem hxm
  have hro:=(hok.rows _ hlm).row
  have hun:=fun k (hk:(p,k)∈r.rows)=>row_uniq hok hlm hk
  have hgo:refOk r.s r.rows (p,l)=true→∀ y∈es,y∈pre++post∨∀ l,(y.1,l)∈r.rows→refOk r.s r.rows (y.1,l)=true:=fun h=>hdone2 (fun k hk=>by rw[← hun k hk];exact h)
  have hno:refOk r.s r.rows (p,l)=false→r.whole=false:=fun h=>List.all_eq_false.2 ⟨_,hlm,by simp[h]⟩
  clear hdone hdone2 hun
  obtain⟨t,⟨k,i,rr,s⟩⟩:=p
  dsimp only at hro
  obtain⟨_,_,hlen⟩:=rowS_key hro
  have hh:hasS (ts.map Tb.c) t=true:=by rw[hss];simp only[rowS,Bool.and_eq_true]at hro;exact hro.1
  obtain⟨tm,tb,rfl,ht,hxt,htm,hta,htok,hmem⟩:=hasS_tb hh
  have hrl:=htok.refL
  have hrd:refOk r.s r.rows (((tm:Int),⟨k,i,rr,s⟩),l)=(if tb.c.ref<0 then true else if((l[tb.c.ref.toNat]?).getD default).kind=0 then true else(aget (tb.c.par,(l[tb.c.ref.toNat]?).getD default) r.rows).isSome):=by
   unfold refOk
   dsimp only
   rw[← hss,hta]
  have hg1:=fun(h:tb.c.ref<0)=>hrd.trans (if_pos h)
  have hg2:=fun(h:¬ tb.c.ref<0) (h':((l[tb.c.ref.toNat]?).getD default).kind=0)=>hrd.trans ((if_neg h).trans (if_pos h'))
  have hg3:=fun(h:¬ tb.c.ref<0) (h':¬ ((l[tb.c.ref.toNat]?).getD default).kind=0)=>hrd.trans ((if_neg h).trans (if_neg h'))
  rw[← hss,hta]at hlen
  clear hrd
  generalize refOk r.s r.rows (((tm:Int),⟨k,i,rr,s⟩),l)=ro at hgo hno hg1 hg2 hg3
  obtain⟨tn,cols,⟨cv',hcv'⟩,key,ref,par⟩:=tb
  dsimp only[tbV,Tb.c]at hxt hlen hrl hg1 hg2 hg3
  refine ops_learn (VwIn.slice (n:=4) (v:=v) (xs:=l.map valV) (VwIn.there (VwIn.there (VwIn.here hvl)))) ?_
  rintro⟨pl,cl,rfl⟩
  refine ops_learn (VwIn.base (n:=5) (p:=pv) (len:=(ts.map tbV).length) (cap:=cv) (xs:=ts.map tbV) (VwIn.there (VwIn.there (VwIn.here hv))) (by intro e;rw[e]at htm;simp at htm)) ?_
  rintro⟨bv,ov,rfl⟩
  cases n1:decide (ref<0)with
  |true=>
   have hg:=hgo (hg1 (of_decide_eq_true n1))
   repeat'(first|(refine gY ?_;intros)|(refine hY ?_ ?_<;>intro hgd)|(refine jY ?_ ?_<;>intro _)|fail)
   (apply ok_draw [9];(focus(kernel_rfl));(focus((conv=>lhs;whnf);first|done|rfl));(focus(decide +kernel));(focus(exact(fun _ h=>h))))
   repeat'(first|(refine gY ?_;intros)|(refine hY ?_ ?_<;>intro hgd)|(refine jY ?_ ?_<;>intro _)|fail)
   refine cont_map (L':=[rangeK KPlace it m es (pre++post) (some (((tm:Int),⟨k,i,rr,s⟩),.slice pl (l.map valV).length cl)),pts b (.cells [.slice (some ⟨bv,ov,none⟩) (ts.map tbV).length cv,.map (some m),.int .u64 r.turns].toArray 129),P]++R) entD ?_
   refine cont_back (pre++post) ⟨_,hsub2,hg,⟨rfl,rfl,rfl,trivial⟩,rfl⟩ (by simp)
  |false=>
   have hr0:=of_decide_eq_false n1
   obtain⟨rm,rfl⟩:∃ rm:Nat,ref=rm:=⟨ref.toNat,by omega⟩
   have hrm:rm<l.length:=by omega
   have hli:l[rm]? =some l[rm]:=List.getElem?_eq_getElem hrm
   have hgd:(l[((rm:Nat):Int).toNat]?).getD default=l[rm]:=by rw[Int.toNat_natCast,hli];rfl
   have hxr:(l.map valV)[rm]? =some (valV l[rm]):=by rw[List.getElem?_map,hli];rfl
   have hnr:rm<(l.map valV).length:=by rw[List.length_map];exact hrm
   rw[hgd]at hg2 hg3
   generalize l[rm]=u at hxr hg2 hg3
   obtain⟨uk,ui,ur,us⟩:=u
   dsimp only[valV]at hxr hg2 hg3
   refine ops_learn (VwIn.base (n:=4) (p:=pl) (len:=(l.map valV).length) (cap:=cl) (xs:=l.map valV) (VwIn.there (VwIn.there (VwIn.here hvl))) (by intro e;rw[e]at hnr;simp at hnr)) ?_
   rintro⟨bl,ol,rfl⟩
   cases n2:decide (uk=0)with
   |true=>
    have hg:=hgo (hg2 hr0 (of_decide_eq_true n2))
    repeat'(first|(refine gY ?_;intros)|(refine hY ?_ ?_<;>intro hgd)|(refine jY ?_ ?_<;>intro _)|fail)
    (apply ok_draw [9];(focus(kernel_rfl));(focus((conv=>lhs;whnf);first|done|rfl));(focus(decide +kernel));(focus(exact(fun _ h=>h))))
    repeat'(first|(refine gY ?_;intros)|(refine hY ?_ ?_<;>intro hgd)|(refine jY ?_ ?_<;>intro _)|fail)
    refine cont_map (L':=[rangeK KPlace it m es (pre++post) (some (((tm:Int),⟨k,i,rr,s⟩),.slice (some ⟨bl,ol,none⟩) (l.map valV).length cl)),pts b (.cells [.slice (some ⟨bv,ov,none⟩) (ts.map tbV).length cv,.map (some m),.int .u64 r.turns].toArray 129),P]++R) entD ?_
    refine cont_back (pre++post) ⟨_,hsub2,hg,⟨rfl,rfl,rfl,trivial⟩,rfl⟩ (by simp)
   |false=>
    have hro3:=hg3 hr0 (of_decide_eq_false n2)
    rcases hes.get (p:=(par,⟨uk,ui,ur,us⟩))with⟨hg,ha⟩|⟨v2,l2,hg,ha,hv2⟩
    ·rw[ha]at hro3
     rw[hno (hro3.trans rfl),cond_false]
     repeat'(first|(refine gY ?_;intros)|(refine hY ?_ ?_<;>intro hgd)|(refine jY ?_ ?_<;>intro _)|fail)
     (apply ok_draw [9];(focus(kernel_rfl));(focus((conv=>lhs;whnf);first|done|rfl));(focus(decide +kernel));(focus(exact(fun _ h=>h))))
     repeat'(first|(refine gY ?_;intros)|(refine hY ?_ ?_<;>intro hgd)|(refine jY ?_ ?_<;>intro _)|fail)
     refine cont_map (fun _ h=>(Take.out1 (A:=rangeK KPlace it m es (pre++post) (some (((tm:Int),⟨k,i,rr,s⟩),.slice (some ⟨bl,ol,none⟩) (l.map valV).length cl))) takeD h).headMono fun _ h=>rangeK.map h) ?_
     refine cont_map (fun _ h=>rel_in (b:=b) (r:=r) hy' (Take.out takeD h)) ?_
     (refine rt_Y (y:=()) (hrs:=Tryz.results26) (hv:=?_) (hφ:=?_))
     ·rfl
     ·trivial
    ·rw[ha]at hro3
     have hg':=hgo (hro3.trans rfl)
     repeat'(first|(refine gY ?_;intros)|(refine hY ?_ ?_<;>intro hgd)|(refine jY ?_ ?_<;>intro _)|fail)
     (apply ok_draw [9];(focus(kernel_rfl));(focus((conv=>lhs;whnf);first|done|rfl));(focus(decide +kernel));(focus(exact(fun _ h=>h))))
     repeat'(first|(refine gY ?_;intros)|(refine hY ?_ ?_<;>intro hgd)|(refine jY ?_ ?_<;>intro _)|fail)
     refine cont_map (L':=[rangeK KPlace it m es (pre++post) (some (((tm:Int),⟨k,i,rr,s⟩),.slice (some ⟨bl,ol,none⟩) (l.map valV).length cl)),pts b (.cells [.slice (some ⟨bv,ov,none⟩) (ts.map tbV).length cv,.map (some m),.int .u64 r.turns].toArray 129),P]++R) entD ?_
     refine cont_back (pre++post) ⟨_,hsub2,hg',⟨rfl,rfl,rfl,trivial⟩,rfl⟩ (by simp)
end Go.Proofs.YtmnafjonbeihiaaGreatDoor
