/- Texts merged: SuP SuA. -/
import Derived.Test.YtmnafjonbeihiaaGreatDoorH35
import Derived.Test.YtmnafjonbeihiaaGreatDoorG8
import Derived.Test.YtmnafjonbeihiaaGreatDoorK9
import Derived.Test.YtmnafjonbeihiaaGreatDoorG15
import Derived.Test.YtmnafjonbeihiaaGreatDoorK7
import Derived.Test.YtmnafjonbeihiaaGreatDoorK8
set_option linter.unusedSimpArgs false
set_option linter.unusedVariables false
namespace Go.Pl
open Go
def opC(s:Sc)(c:Chg):Option Opr:=
 if(s.length:Int)≤c.table then none
 else if c.kind=3 then(match c.bef[(tabAt s c.table).key.toNat]? with|some v=>some ⟨3,c.table,[v]⟩|none=>none)
 else some ⟨c.kind,c.table,c.aft⟩
def doneC(r:Rl)(c:Chg):Rl×Bool:=match opC r.s c with
 |none=>(r,false)
 |some o=>((r.doOp o).1,decide ((r.doOp o).2.2.2=0)&&(decide ((r.doOp o).2.1=c.bef)&&decide ((r.doOp o).2.2.1=c.aft)))
def dones(r:Rl):List Chg→Option Rl
 | []=>some r
 |c::l=>if(doneC r c).2=true then dones (doneC r c).1 l else none
theorem doOp_s(r:Rl)(o:Opr):(r.doOp o).1.s=r.s:=by
 rcases doOp_did r o with⟨_,h,_⟩|⟨_,p,d⟩
 ·rw[h]
 ·exact d.s
theorem doneC_s(r:Rl)(c:Chg):(doneC r c).1.s=r.s:=by
 unfold doneC
 split
 ·rfl
 ·exact doOp_s r _
theorem dones_s:∀ {l:List Chg} {r r':Rl},dones r l=some r'→r'.s=r.s
 | [],r,r',h=>by rw[← Option.some.inj h]
 |c::l,r,r',h=>by
  unfold dones at h
  split at h
  ·rw[dones_s h,doneC_s]
  ·cases h
theorem dones_app:∀ (l m:List Chg) (r:Rl),dones r (l++m)=(dones r l).bind fun r'=>dones r' m
 | [],m,r=>rfl
 |c::l,m,r=>by
  rw[List.cons_append,dones,dones]
  split
  ·exact dones_app l m _
  ·rfl
theorem doOp_done{r:Rl}(hr:r.Ok){o:Opr}(h:(r.doOp o).2.2.2=0):opC r.s ⟨o.kind,o.table,(r.doOp o).2.1,(r.doOp o).2.2.1⟩=some o∧doneC r ⟨o.kind,o.table,(r.doOp o).2.1,(r.doOp o).2.2.1⟩=((r.doOp o).1,true):=by
 rcases doOp_did r o with⟨h1,_⟩|⟨_,p,d⟩
 ·exact absurd h h1
 obtain⟨h1,h2,h3,h4,h5⟩:=d.one hr
 obtain⟨_,h7,_,_,_⟩:=hasS_tab h2
 have hpl:=placeS_tab d.pl
 have e:opC r.s ⟨o.kind,o.table,(r.doOp o).2.1,(r.doOp o).2.2.1⟩=some o:=by
  unfold opC
  dsimp only
  rw[if_neg (by omega)]
  rcases d.kind with⟨hk,_,_,hn⟩|⟨hk,_,_,hn⟩|⟨hk,_,_,hn⟩
  ·rw[if_neg (by omega),hn]
  ·rw[if_neg (by omega),hn]
  ·rw[if_pos hk]
   rw[if_pos hk]at h3
   rw[h3]
   have:=hpl.2.2.2 hk
   dsimp only
   congr 1
   cases o
   dsimp only at hk this
   rw[hk,this]
 refine⟨e,?_⟩
 unfold doneC
 rw[show({kind:=o.kind,table:=o.table,bef:=(r.doOp o).2.1,aft:=(r.doOp o).2.2.1}:Chg)=⟨o.kind,o.table,(r.doOp o).2.1,(r.doOp o).2.2.1⟩from rfl,e]
 dsimp only
 rw[h]
 simp
def hist(r:Rl):List (List Chg)→Option Rl
 | []=>some r
 |l::ls=>match dones r l with
  |some r'=>if r'.whole=true then hist r' ls else none
  |none=>none
theorem hist_app:∀ (a b:List (List Chg)) (r:Rl),hist r (a++b)=(hist r a).bind fun r'=>hist r' b
 | [],b,r=>rfl
 |l::a,b,r=>by
  rw[List.cons_append,hist,hist]
  cases dones r l with
  |none=>rfl
  |some r'=>
   dsimp only
   split
   ·exact hist_app a b r'
   ·rfl
theorem hist_snoc{r r' r'':Rl}{a:List (List Chg)}{l:List Chg}(h:hist r a=some r')(h2:dones r' l=some r'')(h3:r''.whole=true):hist r (a++[l])=some r'':=by
 rw[hist_app,h]
 show hist r' [l]=_
 rw[hist,h2]
 dsimp only
 rw[if_pos h3]
 rfl
def nthC(l:List Chg)(k:Nat)(t:Int):Nat:=((l.take k).filter fun c=>decide (c.table=t)).length
structure ChOk(c:Chg):Prop where
 may:∀ k n:Int,0≤n→n≤k→k<200→mayE k n c=true
 wb:∀ v∈c.bef,v.wf
 wa:∀ v∈c.aft,v.wf
theorem nthC_le(l:List Chg)(k:Nat)(t:Int):nthC l k t≤k:=by
 unfold nthC
 have h1:=List.length_filter_le (fun c:Chg=>decide (c.table=t)) (l.take k)
 have h2:=List.length_take_le k l
 omega
theorem nthC_succ{l:List Chg}{k:Nat}(h:k<l.length)(t:Int):nthC l (k+1) t=nthC l k t+(if l[k].table=t then 1 else 0):=by
 unfold nthC
 rw[List.take_succ_eq_append_getElem h,List.filter_append,List.length_append]
 congr 1
 by_cases e:l[k].table=t
 ·rw[if_pos e,List.filter_cons_of_pos (by simpa using e)];rfl
 ·rw[if_neg e,List.filter_cons_of_neg (by simpa using e)];rfl
def recE(n:Nat)(l:List Chg)(k:Nat)(c:Chg):BA:=putEB n k (nthC l k c.table) c
def recT(n:Nat)(l:List Chg):Nat→BA
 |0=>numB l.length 2
 |k+1=>match l[k]? with
  |some c=>recT n l k++(numB (recE n l k c).size 4++recE n l k c)
  |none=>recT n l k
def recB(n:Nat)(l:List Chg):BA:=recT n l l.length
theorem recT_succ(n:Nat){l:List Chg}{k:Nat}{c:Chg}(h:l[k]? =some c):recT n l (k+1)=recT n l k++(numB (recE n l k c).size 4++recE n l k c):=by
 rw[recT,h]
theorem recT_pre(n:Nat)(l:List Chg)(k:Nat):∀ j,∃ r,recT n l (k+j)=recT n l k++r
 |0=>⟨ByteArray.empty,by rw[Nat.add_zero,ByteArray.append_empty]⟩
 |j+1=>by
  obtain⟨r,h⟩:=recT_pre n l k j
  rw[← Nat.add_assoc,recT]
  cases l[k+j]? with
  |none=>exact⟨r,h⟩
  |some c=>exact⟨r++(numB (recE n l (k+j) c).size 4++recE n l (k+j) c),by dsimp only;rw[h,ByteArray.append_assoc]⟩
theorem rowB_of{s:Sc}{t:Int}{l:List Vl}(h:rowS s t l=true):rowB l=true:=by
 simp only[rowS,Bool.and_eq_true]at h
 obtain⟨h0,h1,_,ht,_⟩:=hasS_tab h.1
 have hl:=fitsL_len h.2
 have k0:=ht.key0
 have kL:=ht.keyL
 have k8:=ht.len
 unfold rowB
 rw[decide_eq_true (by omega),decide_eq_true (by omega),Bool.true_and,Bool.true_and,List.all_eq_true]
 intro v hv
 obtain⟨i,hi,rfl⟩:=List.getElem_of_mem hv
 have e:=fitsL_at h.2 (k:=i) (c:=(tabAt s t).cols[i]'(by omega)) (v:=l[i]) (List.getElem?_eq_getElem _) (List.getElem?_eq_getElem _)
 unfold fitsC at e
 simp only[Bool.and_eq_true]at e
 exact e.1
theorem doOp_chok{r:Rl}(hr:r.Ok)(hwf:∀ x∈r.rows,∀ v∈x.2,v.wf){o:Opr}(hw:∀ v∈o.row,v.wf)(h:(r.doOp o).2.2.2=0):ChOk ⟨o.kind,o.table,(r.doOp o).2.1,(r.doOp o).2.2.1⟩:=by
 rcases doOp_did r o with⟨h1,_⟩|⟨_,p,d⟩
 ·exact absurd h h1
 obtain⟨h1,h2,h3,h4,h5⟩:=d.one hr
 obtain⟨t0,t1,_,_,hc⟩:=hasS_tab h2
 obtain⟨_,_,_,_,hlen⟩:=checkS_ok hc
 have hpl:=placeS_tab d.pl
 have hwas:(aget p r.rows).isSome=true→rowB (r.doOp o).2.1=true∧∀ v∈(r.doOp o).2.1,v.wf:=fun hs=>by
  obtain⟨l,hl⟩:=Option.isSome_iff_exists.1 hs
  have hm:=aget_mem hl
  rw[d.was,hl]
  have:=(hr.rows _ hm).row
  exact⟨rowB_of this,hwf _ hm⟩
 have hnow:o.kind≠3→rowB o.row=true:=fun hk=>rowB_of (hpl.2.2.1 hk).row
 rcases d.kind with⟨hk,hg,_,hn⟩|⟨hk,hg,_,hn⟩|⟨hk,hg,_,hn⟩
 ·have hw0:(r.doOp o).2.1=[]:=by rw[d.was,hg];rfl
  rw[hn,hw0,hk]
  refine⟨fun k n a b c=>?_,fun v hv=>(by simp at hv),hw⟩
  unfold mayE hasE notE
  dsimp only
  rw[decide_eq_false (show ¬ ((1:Int)<1)by decide),decide_eq_false (show ¬ ((4:Int)<1)by decide),decide_eq_false (show ¬ (o.table<0)by omega),decide_eq_false (show ¬ (12≤o.table)by omega),decide_eq_false (show ¬ (k<0)by omega),decide_eq_false (show ¬ (200≤k)by omega),decide_eq_false (show ¬ (n<0)by omega),decide_eq_false (show ¬ (k<n)by omega)]
  simp[hnow (by omega)]
 ·obtain⟨a1,a2⟩:=hwas hg
  rw[hn,hk]
  refine⟨fun k n a b c=>?_,a2,hw⟩
  unfold mayE hasE notE
  dsimp only
  rw[decide_eq_false (show ¬ ((2:Int)<1)by decide),decide_eq_false (show ¬ ((4:Int)<2)by decide),decide_eq_false (show ¬ (o.table<0)by omega),decide_eq_false (show ¬ (12≤o.table)by omega),decide_eq_false (show ¬ (k<0)by omega),decide_eq_false (show ¬ (200≤k)by omega),decide_eq_false (show ¬ (n<0)by omega),decide_eq_false (show ¬ (k<n)by omega)]
  simp[hnow (by omega),a1]
 ·obtain⟨a1,a2⟩:=hwas hg
  rw[hn,hk]
  refine⟨fun k n a b c=>?_,a2,fun v hv=>(by simp at hv)⟩
  unfold mayE hasE notE
  dsimp only
  rw[decide_eq_false (show ¬ ((3:Int)<1)by decide),decide_eq_false (show ¬ ((4:Int)<3)by decide),decide_eq_false (show ¬ (o.table<0)by omega),decide_eq_false (show ¬ (12≤o.table)by omega),decide_eq_false (show ¬ (k<0)by omega),decide_eq_false (show ¬ (200≤k)by omega),decide_eq_false (show ¬ (n<0)by omega),decide_eq_false (show ¬ (k<n)by omega)]
  simp[a1]
structure TxB(r:Rl)(x:Tx):Prop where
 l:dones r x.l=some x.own
 redo:r.play x.redo=x.own
 t0:x.t0=r.turns
 ch:∀ c∈x.l,ChOk c
theorem TxB.new(r:Rl):TxB r ⟨r,r.turns,[],[],false⟩:=⟨rfl,rfl,rfl,fun c hc=>by simp at hc⟩
theorem TxB.doT{r:Rl}{x:Tx}(h:TxB r x)(hx:x.own.Ok)(hwf:∀ y∈x.own.rows,∀ v∈y.2,v.wf){o:Opr}(hw:∀ v∈o.row,v.wf):TxB r (x.doT o).1:=by
 unfold Tx.doT
 split
 ·exact h
 split
 ·exact h
 split
 ·exact h
 ·rename_i h0
  have h0':(x.own.doOp o).2.2.2=0:=Decidable.not_not.1 h0
  refine⟨?_,?_,h.t0,?_⟩
  ·dsimp only
   rw[dones_app,h.l]
   show dones x.own [_]=_
   rw[dones,(doOp_done hx h0').2]
   rfl
  ·dsimp only
   rw[Rl.play_snoc,h.redo]
  ·intro c hc
   dsimp only at hc
   rcases List.mem_append.1 hc with hc|hc
   ·exact h.ch c hc
   ·rw[List.mem_singleton.1 hc]
    exact doOp_chok hx hwf hw h0'
end Go.Pl
set_option maxRecDepth 100000
namespace Go.Proofs.YtmnafjonbeihiaaGreatDoor
open Go Go.Fx Go.Proofs Go.Pl
theorem sEqV_spec(a c:List Vl)(u w:Value)(A:HProp)(hA:Vw A 4 u (a.map valV))(hB:Vw A 4 w (c.map valV))(hz:a.length≤1000000):
  FSpec Tryz.prog 142 [u,w] [A] Unit (fun _=>True) (fun _=>.bool (decide (a=c))) (fun _=>[A]):=by
 have la:(a.map valV).length=a.length:=by simp
 have lc:(c.map valV).length=c.length:=by simp
 refine spec_intro [] _ Tryz.func142 rfl Tryz.ntmps142 (by rfl) (fun w0 R=>?_)
 refine ok_learn (VwIn.slice (VwIn.here hA)) ?_
 rintro⟨pu,cu,rfl⟩
 refine ok_learn (VwIn.slice (VwIn.here hB)) ?_
 rintro⟨pw,cw,rfl⟩
 cases t0:(!decide (((a.map valV).length:Int)=((c.map valV).length:Int)))with
 |true=>
  have hne:decide (a=c)=false:=by simp;intro e;subst e;simp at t0
  rw[hne]
  repeat'(first|(refine gY ?_;intros)|(refine hY ?_ ?_<;>intro hgd)|(refine jY ?_ ?_<;>intro _)|fail)
  (refine rt_Y (y:=()) (hrs:=Tryz.results142) (hv:=?_) (hφ:=?_))
  ·rfl
  ·trivial
 |false=>
  have hlen:a.length=c.length:=by simp at t0;omega
  repeat'(first|(refine gY ?_;intros)|(refine hY ?_ ?_<;>intro hgd)|(refine jY ?_ ?_<;>intro _)|fail)
  refine ok_loop' (γ:=Nat) (fun i ρ L=>i≤a.length∧a.take i=c.take i∧Knows ρ [(0,.slice pu (a.map valV).length cu),(1,.slice pw (c.map valV).length cw),(12,.int .i64 ((a.map valV).length:Int)),(13,.int .i64 i)]∧L=[A]++R) (fun i=>a.length-i) 0 ⟨by omega,by simp,⟨rfl,rfl,rfl,rfl,trivial⟩,rfl⟩ ?_
  rintro i ρ L ⟨hi,he,hk,rfl⟩
  refine ok_regs hk ?_
  cases t1:decide ((i:Int)<((a.map valV).length:Int))with
  |false=>
   have hie:i=a.length:=by have:=of_decide_eq_false t1;omega
   have hac:decide (a=c)=true:=by
    rw[hie,List.take_length]at he
    rw[hlen,List.take_length]at he
    simp[he]
   rw[hac]
   repeat'(first|(refine gY ?_;intros)|(refine hY ?_ ?_<;>intro hgd)|(refine jY ?_ ?_<;>intro _)|fail)
   (refine rt_Y (y:=()) (hrs:=Tryz.results142) (hv:=?_) (hφ:=?_))
   ·rfl
   ·trivial
  |true=>
   have h:i<a.length:=by have:=of_decide_eq_true t1;omega
   have hc':i<c.length:=by omega
   have hx:(a.map valV)[i]? =some (valV a[i]):=by rw[List.getElem?_map,List.getElem?_eq_getElem h];rfl
   have hy:(c.map valV)[i]? =some (valV c[i]):=by rw[List.getElem?_map,List.getElem?_eq_getElem hc'];rfl
   have hn1:i<(a.map valV).length:=by omega
   have hn2:i<(c.map valV).length:=by omega
   have t1a:a.take (i+1)=a.take i++[a[i]]:=List.take_succ_eq_append_getElem h
   have t1c:c.take (i+1)=c.take i++[c[i]]:=List.take_succ_eq_append_getElem hc'
   have hq:=eqL_valV a[i] c[i]
   have hdiff:a[i]≠c[i]→decide (a=c)=false:=fun hn=>by
    simp only[decide_eq_false_iff_not]
    intro e;subst e;exact hn rfl
   refine ok_learn (VwIn.base (VwIn.here hA) (by intro e;rw[e]at hn1;simp at hn1)) ?_
   rintro⟨bu,ou,rfl⟩
   refine ok_learn (VwIn.base (VwIn.here hB) (by intro e;rw[e]at hn2;simp at hn2)) ?_
   rintro⟨bw,ow,rfl⟩
   generalize a[i]=x at hx hq hdiff t1a
   generalize c[i]=y at hy hq hdiff t1c
   obtain⟨xk,xi,xr,xs⟩:=x
   obtain⟨yk,yi,yr,ys⟩:=y
   dsimp only[valV]at hx hy hq
   cases hn:nilB BinOp.neq (eqL [TypeDesc.int .u8,TypeDesc.int .i64,TypeDesc.int .u64,TypeDesc.string] [Value.int .u8 xk,Value.int .i64 xi,Value.int .u64 xr,Value.string xs] [Value.int .u8 yk,Value.int .i64 yi,Value.int .u64 yr,Value.string ys])with
   |true=>
    have hd:(⟨xk,xi,xr,xs⟩:Vl)≠⟨yk,yi,yr,ys⟩:=by
     rw[hq]at hn
     have:decide ((⟨xk,xi,xr,xs⟩:Vl)=⟨yk,yi,yr,ys⟩)=false:=by simpa only[nilB,Bool.not_eq_true']using hn
     exact of_decide_eq_false this
    rw[hdiff hd]
    repeat'(first|(refine gY ?_;intros)|(refine hY ?_ ?_<;>intro hgd)|(refine jY ?_ ?_<;>intro _)|fail)
    (refine rt_Y (y:=()) (hrs:=Tryz.results142) (hv:=?_) (hφ:=?_))
    ·rfl
    ·trivial
   |false=>
    have hd:(⟨xk,xi,xr,xs⟩:Vl)=⟨yk,yi,yr,ys⟩:=by
     rw[hq]at hn
     have:decide ((⟨xk,xi,xr,xs⟩:Vl)=⟨yk,yi,yr,ys⟩)=true:=by simpa only[nilB,Bool.not_eq_false']using hn
     exact of_decide_eq_true this
    repeat'(first|(refine gY ?_;intros)|(refine hY ?_ ?_<;>intro hgd)|(refine jY ?_ ?_<;>intro _)|fail)
    refine cont_map (L':=[A]++R) entD ?_
    refine cont_back (i+1) ⟨h,by rw[t1a,t1c,he,hd],⟨rfl,rfl,rfl,rfl,trivial⟩,rfl⟩ (by omega)
theorem vSame_spec(a c:List Vl)(u w:Value)(A:HProp)(hA:Vw A 4 u (a.map valV))(hB:Vw A 4 w (c.map valV))(hz:a.length≤1000000):
  FSpec Tryz.prog 90 [u,w] [A] Unit (fun _=>True) (fun _=>.bool (decide (a=c))) (fun _=>[A]):=by
 refine spec_intro [] _ Tryz.func90 rfl Tryz.ntmps90 (by rfl) (fun w0 R=>?_)
 repeat'(first|(refine gY ?_;intros)|(refine hY ?_ ?_<;>intro hgd)|(refine jY ?_ ?_<;>intro _)|fail)
 refine cl_Y (sEqV_spec a c u w A hA hB hz) ?_
 intro _ _
 repeat'(first|(refine gY ?_;intros)|(refine hY ?_ ?_<;>intro hgd)|(refine jY ?_ ?_<;>intro _)|fail)
 (refine rt_Y (y:=()) (hrs:=Tryz.results90) (hv:=?_) (hφ:=?_))
 ·rfl
 ·trivial
abbrev doP(bs bm b:Nat)(vs:Value):List HProp:=[pts bs (.cells [vs].toArray 29),pts bm (.cells [.pointer (some ⟨b,0,none⟩)].toArray 37)]
structure ChI(P:HProp)(c:Cm):Prop where
 r:CmR P c
 wb:∀ v∈c.bef,v.wf
 wa:∀ v∈c.aft,v.wf
 lb:c.bef.length≤1000000
 la:c.aft.length≤1000000
 t0:0≤c.table
theorem done_len{r:Rl}(hok:r.Ok)(o:Opr)(hl:o.row.length≤1000000):(r.doOp o).2.1.length≤1000000∧(r.doOp o).2.2.1.length≤1000000:=did_len hok o hl
theorem doer1_far(bs bm b:Nat)(r:Rl)(vs:Value)(ts:List Tb)(c:Cm)(P:HProp)(hsv:SV P vs ts)(hts:ts.map Tb.c=r.s)(hvc:vs.oneCell'=true)(hc:ChI P c)(h:(r.s.length:Int)≤c.table):
  FSpec Tryz.prog 89 [.agg (cmV c).toArray,.pointer (some ⟨bs,0,none⟩),.pointer (some ⟨bm,0,none⟩)] (doP bs bm b vs++[relP P b r,P]) HProp (fun P'=>Ext P P') (fun _=>.bool false) (fun P'=>doP bs bm b vs++[relP P' b r,P']):=by
 have ll:(ts.map tbV).length=r.s.length:=by rw[← hts];simp
 obtain⟨ck,ct,⟨bv,hbv⟩,bef,⟨av,hav⟩,aft⟩:=c
 dsimp only at h
 have hv:=hsv.vw
 refine fspec_lrn (fun R hh g=>(VwIn.slice (VwIn.there (VwIn.there (VwIn.there (VwIn.here hv))))) hh g) ?_
 rintro⟨pu,cu,rfl⟩
 have t1:decide (((ts.map tbV).length:Int)≤ct)=true:=decide_eq_true (by omega)
 dsimp only[cmV]
 refine spec_intro [] _ Tryz.func89 rfl Tryz.ntmps89 (by rfl) (fun w0 R=>?_)
 repeat'(first|(refine gY ?_;intros)|(refine hY ?_ ?_<;>intro hgd)|(refine jY ?_ ?_<;>intro _)|fail)
 (refine rt_Y (y:=P) (hrs:=Tryz.results89) (hv:=?_) (hφ:=?_))
 ·rfl
 ·exact .refl _
set_option maxHeartbeats 8000000 in
theorem doer1_lay(bs bm b:Nat)(r:Rl)(vs:Value)(ts:List Tb)(c:Cm)(P:HProp)(hok:r.Ok)(hU:UT P)(hsv:SV P vs ts)(hts:ts.map Tb.c=r.s)(hvc:vs.oneCell'=true)(hc:ChI P c)(h:c.table<(r.s.length:Int))(hk:c.kind≠3):
  FSpec Tryz.prog 89 [.agg (cmV c).toArray,.pointer (some ⟨bs,0,none⟩),.pointer (some ⟨bm,0,none⟩)] (doP bs bm b vs++[relP P b r,P]) HProp (fun P'=>Ext P P') (fun _=>.bool (doneC r c.c).2) (fun P'=>doP bs bm b vs++[relP P' b (doneC r c.c).1,P']):=by
 have ll:(ts.map tbV).length=r.s.length:=by rw[← hts];simp
 have hdl:=done_len hok ⟨c.kind,c.table,c.aft⟩ hc.la
 have e9:doneC r c.c=((r.doOp ⟨c.kind,c.table,c.aft⟩).1,decide ((r.doOp ⟨c.kind,c.table,c.aft⟩).2.2.2=0)&&(decide ((r.doOp ⟨c.kind,c.table,c.aft⟩).2.1=c.bef)&&decide ((r.doOp ⟨c.kind,c.table,c.aft⟩).2.2.1=c.aft))):=by
  unfold doneC opC Cm.c
  dsimp only
  rw[if_neg (by omega),if_neg hk]
 have hdo:=relDo_spec b r ⟨c.kind,c.table,c.aft⟩ c.av.1 P hok hU hc.r.av c.av.2 hc.wa hc.la
 rw[e9]
 generalize r.doOp ⟨c.kind,c.table,c.aft⟩=dd at hdo hdl ⊢
 obtain⟨r2,q1,q2,e⟩:=dd
 have hcb:=hc.r.bv
 have hca:=hc.r.av
 obtain⟨ck,ct,⟨bv,hbv⟩,bef,⟨av,hav⟩,aft⟩:=c
 dsimp only at h hk hdo hdl hcb hca ⊢
 have hv:=hsv.vw
 refine fspec_lrn (fun R hh g=>(VwIn.slice (VwIn.there (VwIn.there (VwIn.there (VwIn.here hv))))) hh g) ?_
 rintro⟨pu,cu,rfl⟩
 have t1:decide (((ts.map tbV).length:Int)≤ct)=false:=decide_eq_false (by omega)
 have t2:decide (ck=3)=false:=decide_eq_false hk
 refine fspec_lrn (fun R hh g=>(VwIn.slice (VwIn.there (VwIn.there (VwIn.there (VwIn.here hcb))))) hh g) ?_
 rintro⟨pb,cb,rfl⟩
 refine fspec_lrn (fun R hh g=>(VwIn.slice (VwIn.there (VwIn.there (VwIn.there (VwIn.here hca))))) hh g) ?_
 rintro⟨pa,ca,rfl⟩
 dsimp only[cmV]
 refine spec_intro [] _ Tryz.func89 rfl Tryz.ntmps89 (by rfl) (fun w0 R=>?_)
 repeat'(first|(refine gY ?_;intros)|(refine hY ?_ ?_<;>intro hgd)|(refine jY ?_ ?_<;>intro _)|fail)
 refine cl_Y (hdo) ?_
 rintro⟨⟨a1,ha1⟩,⟨b1,hb1⟩,P2⟩ ⟨hE2,hvw⟩
 dsimp only at hE2 hvw ⊢
 refine ops_poolN (ty:=93) (n:=4) (v:=b1) (xs:=q2.map valV) (P:=P2) takeD ?_
 intro P3 hE3 hv3
 refine opsL_mapL (fun _ h=>relP_ext hE3 (b:=b) (r:=r2) (Take.out1 (A:=relP P2 b r2) takeD h)) ?_
 have hE:=hE2.trans hE3
 have hs1:=vSame_spec q1 bef a1 (.slice pb (bef.map valV).length cb) P3 (hE3.vw hvw) (hE.vw hcb) hdl.1
 have hs2:=vSame_spec q2 aft b1 (.slice pa (aft.map valV).length ca) P3 hv3 (hE.vw hca) hdl.2
 cases e0:decide (e=0)with
 |false=>
  repeat'(first|(refine gY ?_;intros)|(refine hY ?_ ?_<;>intro hgd)|(refine jY ?_ ?_<;>intro _)|fail)
  (refine rt_Y (y:=P3) (hrs:=Tryz.results89) (hv:=?_) (hφ:=?_))
  ·rfl
  ·exact hE
 |true=>
  cases e1:decide (q1=bef)with
  |false=>
   rw[e1]at hs1
   repeat'(first|(refine gY ?_;intros)|(refine hY ?_ ?_<;>intro hgd)|(refine jY ?_ ?_<;>intro _)|fail)
   refine cl_Y (hs1) ?_
   intro _ _
   repeat'(first|(refine gY ?_;intros)|(refine hY ?_ ?_<;>intro hgd)|(refine jY ?_ ?_<;>intro _)|fail)
   (refine rt_Y (y:=P3) (hrs:=Tryz.results89) (hv:=?_) (hφ:=?_))
   ·rfl
   ·exact hE
  |true=>
   rw[e1]at hs1
   cases e2:decide (q2=aft)with
   |false=>
    rw[e2]at hs2
    repeat'(first|(refine gY ?_;intros)|(refine hY ?_ ?_<;>intro hgd)|(refine jY ?_ ?_<;>intro _)|fail)
    refine cl_Y (hs1) ?_
    intro _ _
    repeat'(first|(refine gY ?_;intros)|(refine hY ?_ ?_<;>intro hgd)|(refine jY ?_ ?_<;>intro _)|fail)
    refine cl_Y (hs2) ?_
    intro _ _
    repeat'(first|(refine gY ?_;intros)|(refine hY ?_ ?_<;>intro hgd)|(refine jY ?_ ?_<;>intro _)|fail)
    (refine rt_Y (y:=P3) (hrs:=Tryz.results89) (hv:=?_) (hφ:=?_))
    ·rfl
    ·exact hE
   |true=>
    rw[e2]at hs2
    repeat'(first|(refine gY ?_;intros)|(refine hY ?_ ?_<;>intro hgd)|(refine jY ?_ ?_<;>intro _)|fail)
    refine cl_Y (hs1) ?_
    intro _ _
    repeat'(first|(refine gY ?_;intros)|(refine hY ?_ ?_<;>intro hgd)|(refine jY ?_ ?_<;>intro _)|fail)
    refine cl_Y (hs2) ?_
    intro _ _
    repeat'(first|(refine gY ?_;intros)|(refine hY ?_ ?_<;>intro hgd)|(refine jY ?_ ?_<;>intro _)|fail)
    (refine rt_Y (y:=P3) (hrs:=Tryz.results89) (hv:=?_) (hφ:=?_))
    ·rfl
    ·exact hE
set_option maxHeartbeats 8000000 in
theorem doer1_del(bs bm b:Nat)(r:Rl)(vs:Value)(ts:List Tb)(c:Cm)(P:HProp)(hok:r.Ok)(hU:UT P)(hsv:SV P vs ts)(hts:ts.map Tb.c=r.s)(hvc:vs.oneCell'=true)(hc:ChI P c)(h:c.table<(r.s.length:Int))(hk:c.kind=3)(kn:Nat)(v:Vl)(hkn:(tabAt r.s c.table).key=(kn:Int))(hbv:c.bef[kn]? =some v):
  FSpec Tryz.prog 89 [.agg (cmV c).toArray,.pointer (some ⟨bs,0,none⟩),.pointer (some ⟨bm,0,none⟩)] (doP bs bm b vs++[relP P b r,P]) HProp (fun P'=>Ext P P') (fun _=>.bool (doneC r c.c).2) (fun P'=>doP bs bm b vs++[relP P' b (doneC r c.c).1,P']):=by
 have ll:(ts.map tbV).length=r.s.length:=by rw[← hts];simp
 have hdl:=done_len hok ⟨3,c.table,[v]⟩ (by simp)
 have e9:doneC r c.c=((r.doOp ⟨3,c.table,[v]⟩).1,decide ((r.doOp ⟨3,c.table,[v]⟩).2.2.2=0)&&(decide ((r.doOp ⟨3,c.table,[v]⟩).2.1=c.bef)&&decide ((r.doOp ⟨3,c.table,[v]⟩).2.2.1=c.aft))):=by
  unfold doneC opC Cm.c
  dsimp only
  rw[if_neg (by omega),if_pos hk,hkn,Int.toNat_natCast,hbv]
 have hvm:∀ x∈[v],x.wf:=fun x hx=>by rw[List.mem_singleton.1 hx];exact hc.wb v (List.mem_of_getElem? hbv)
 have hdo:=fun(w:Value) (Q:HProp) (hU:UT Q) (hw:Vw Q 4 w ([v].map valV)) (hwc:w.oneCell'=true)=>relDo_spec b r ⟨3,c.table,[v]⟩ w Q hok hU hw hwc hvm (by simp)
 rw[e9]
 generalize r.doOp ⟨3,c.table,[v]⟩=dd at hdo hdl ⊢
 obtain⟨r2,q1,q2,e⟩:=dd
 have hcb:=hc.r.bv
 have hca:=hc.r.av
 obtain⟨ck,ct,⟨bv,hbv'⟩,bef,⟨av,hav⟩,aft⟩:=c
 dsimp only at h hk hdo hdl hcb hca ⊢
 have hv:=hsv.vw
 refine fspec_lrn (fun R hh g=>(VwIn.slice (VwIn.there (VwIn.there (VwIn.there (VwIn.here hv))))) hh g) ?_
 rintro⟨pu,cu,rfl⟩
 have t1:decide (((ts.map tbV).length:Int)≤ct)=false:=decide_eq_false (by omega)
 subst hk
 obtain⟨ctn,rfl⟩:∃ n:Nat,ct=n:=⟨ct.toNat,by have:=hc.t0;dsimp only at this;omega⟩
 have hct:ctn<ts.length:=by rw[← hts,List.length_map]at h;omega
 have hx:(ts.map tbV)[ctn]? =some (tbV ts[ctn]):=by rw[List.getElem?_map,List.getElem?_eq_getElem hct];rfl
 have hkey:ts[ctn].key=(kn:Int):=by
  rw[← hkn,← hts]
  unfold tabAt
  rw[Int.toNat_natCast,List.getElem?_map,List.getElem?_eq_getElem hct]
  rfl
 have hkl:kn<bef.length:=by
  rcases Nat.lt_or_ge kn bef.length with h1|h1
  ·exact h1
  ·rw[List.getElem?_eq_none h1]at hbv;cases hbv
 have lb:(bef.map valV).length=bef.length:=by simp
 have hyb:(bef.map valV)[kn]? =some (valV v):=by rw[List.getElem?_map,hbv];rfl
 have t3:decide (((bef.map valV).length:Int)≤(kn:Int))=false:=decide_eq_false (by omega)
 have hn1:ctn<(ts.map tbV).length:=by omega
 have hn2:kn<(bef.map valV).length:=by omega
 refine fspec_lrn (fun R hh g=>(VwIn.slice (VwIn.there (VwIn.there (VwIn.there (VwIn.here hcb))))) hh g) ?_
 rintro⟨pb,cb,rfl⟩
 refine fspec_lrn (fun R hh g=>(VwIn.slice (VwIn.there (VwIn.there (VwIn.there (VwIn.here hca))))) hh g) ?_
 rintro⟨pa,ca,rfl⟩
 have hv0:=hv
 generalize ts[ctn]=tt at hx hkey
 obtain⟨tn,tc,⟨tcv,htcv⟩,tk,tr,tp⟩:=tt
 obtain⟨vk,vi,vr,vt⟩:=v
 dsimp only at hkey
 subst hkey
 dsimp only[tbV]at hx
 dsimp only[valV]at hyb
 dsimp only[cmV]
 refine spec_intro [] _ Tryz.func89 rfl Tryz.ntmps89 (by rfl) (fun w0 R=>?_)
 refine ok_learn (VwIn.base (n:=5) (p:=pu) (len:=(ts.map tbV).length) (cap:=cu) (xs:=ts.map tbV) (VwIn.there (VwIn.there (VwIn.there (VwIn.here hv)))) (by intro e;rw[e]at hn1;simp at hn1)) ?_
 rintro⟨bu,ou,rfl⟩
 refine ok_learn (VwIn.base (n:=4) (p:=pb) (len:=(bef.map valV).length) (cap:=cb) (xs:=bef.map valV) (VwIn.there (VwIn.there (VwIn.there (VwIn.here hcb)))) (by intro e;rw[e]at hn2;simp at hn2)) ?_
 rintro⟨bb,ob,rfl⟩
 repeat'(first|(refine gY ?_;intros)|(refine hY ?_ ?_<;>intro hgd)|(refine jY ?_ ?_<;>intro _)|fail)
 rename_i bo w hw0
 refine ops_poolN (ty:=93) (n:=4) (v:=w) (xs:=[[.int .u8 vk,.int .i64 vi,.int .u64 vr,.string vt]]) (P:=P) takeD ?_
 intro P1 hE1 hv1
 refine opsL_mapL (fun _ h=>relP_ext hE1 (b:=b) (r:=r) (Take.out1 (A:=relP P b r) takeD h)) ?_
 refine cl_Y (hdo w P1 (hU.ext hE1) hv1 hw0) ?_
 rintro⟨⟨a1,ha1⟩,⟨b1,hb1⟩,P2⟩ ⟨hE2,hvw⟩
 dsimp only at hE2 hvw ⊢
 refine ops_poolN (ty:=93) (n:=4) (v:=b1) (xs:=q2.map valV) (P:=P2) takeD ?_
 intro P3 hE3 hv3
 refine opsL_mapL (fun _ h=>relP_ext hE3 (b:=b) (r:=r2) (Take.out1 (A:=relP P2 b r2) takeD h)) ?_
 have hE:=hE1.trans (hE2.trans hE3)
 have hs1:=vSame_spec q1 bef a1 (.slice (some ⟨bb,ob,none⟩) (bef.map valV).length cb) P3 (hE3.vw hvw) (hE.vw hcb) hdl.1
 have hs2:=vSame_spec q2 aft b1 (.slice pa (aft.map valV).length ca) P3 hv3 (hE.vw hca) hdl.2
 cases e0:decide (e=0)with
 |false=>
  repeat'(first|(refine gY ?_;intros)|(refine hY ?_ ?_<;>intro hgd)|(refine jY ?_ ?_<;>intro _)|fail)
  (refine rt_Y (y:=P3) (hrs:=Tryz.results89) (hv:=?_) (hφ:=?_))
  ·rfl
  ·exact hE
 |true=>
  cases e1:decide (q1=bef)with
  |false=>
   rw[e1]at hs1
   repeat'(first|(refine gY ?_;intros)|(refine hY ?_ ?_<;>intro hgd)|(refine jY ?_ ?_<;>intro _)|fail)
   refine cl_Y (hs1) ?_
   intro _ _
   repeat'(first|(refine gY ?_;intros)|(refine hY ?_ ?_<;>intro hgd)|(refine jY ?_ ?_<;>intro _)|fail)
   (refine rt_Y (y:=P3) (hrs:=Tryz.results89) (hv:=?_) (hφ:=?_))
   ·rfl
   ·exact hE
  |true=>
   rw[e1]at hs1
   cases e2:decide (q2=aft)with
   |false=>
    rw[e2]at hs2
    repeat'(first|(refine gY ?_;intros)|(refine hY ?_ ?_<;>intro hgd)|(refine jY ?_ ?_<;>intro _)|fail)
    refine cl_Y (hs1) ?_
    intro _ _
    repeat'(first|(refine gY ?_;intros)|(refine hY ?_ ?_<;>intro hgd)|(refine jY ?_ ?_<;>intro _)|fail)
    refine cl_Y (hs2) ?_
    intro _ _
    repeat'(first|(refine gY ?_;intros)|(refine hY ?_ ?_<;>intro hgd)|(refine jY ?_ ?_<;>intro _)|fail)
    (refine rt_Y (y:=P3) (hrs:=Tryz.results89) (hv:=?_) (hφ:=?_))
    ·rfl
    ·exact hE
   |true=>
    rw[e2]at hs2
    repeat'(first|(refine gY ?_;intros)|(refine hY ?_ ?_<;>intro hgd)|(refine jY ?_ ?_<;>intro _)|fail)
    refine cl_Y (hs1) ?_
    intro _ _
    repeat'(first|(refine gY ?_;intros)|(refine hY ?_ ?_<;>intro hgd)|(refine jY ?_ ?_<;>intro _)|fail)
    refine cl_Y (hs2) ?_
    intro _ _
    repeat'(first|(refine gY ?_;intros)|(refine hY ?_ ?_<;>intro hgd)|(refine jY ?_ ?_<;>intro _)|fail)
    (refine rt_Y (y:=P3) (hrs:=Tryz.results89) (hv:=?_) (hφ:=?_))
    ·rfl
    ·exact hE
set_option maxHeartbeats 8000000 in
theorem doer1_none(bs bm b:Nat)(r:Rl)(vs:Value)(ts:List Tb)(c:Cm)(P:HProp)(hsv:SV P vs ts)(hts:ts.map Tb.c=r.s)(hvc:vs.oneCell'=true)(hc:ChI P c)(h:c.table<(r.s.length:Int))(hk:c.kind=3)(kn:Nat)(hkn:(tabAt r.s c.table).key=(kn:Int))(hbl:c.bef.length≤kn):
  FSpec Tryz.prog 89 [.agg (cmV c).toArray,.pointer (some ⟨bs,0,none⟩),.pointer (some ⟨bm,0,none⟩)] (doP bs bm b vs++[relP P b r,P]) HProp (fun P'=>Ext P P') (fun _=>.bool false) (fun P'=>doP bs bm b vs++[relP P' b r,P']):=by
 have ll:(ts.map tbV).length=r.s.length:=by rw[← hts];simp
 have hcb:=hc.r.bv
 have hca:=hc.r.av
 obtain⟨ck,ct,⟨bv,hbv'⟩,bef,⟨av,hav⟩,aft⟩:=c
 dsimp only at h hk hcb hca hbl hkn ⊢
 have hv:=hsv.vw
 refine fspec_lrn (fun R hh g=>(VwIn.slice (VwIn.there (VwIn.there (VwIn.there (VwIn.here hv))))) hh g) ?_
 rintro⟨pu,cu,rfl⟩
 have t1:decide (((ts.map tbV).length:Int)≤ct)=false:=decide_eq_false (by omega)
 subst hk
 obtain⟨ctn,rfl⟩:∃ n:Nat,ct=n:=⟨ct.toNat,by have:=hc.t0;dsimp only at this;omega⟩
 have hct:ctn<ts.length:=by rw[← hts,List.length_map]at h;omega
 have hx:(ts.map tbV)[ctn]? =some (tbV ts[ctn]):=by rw[List.getElem?_map,List.getElem?_eq_getElem hct];rfl
 have hkey:ts[ctn].key=(kn:Int):=by
  rw[← hkn,← hts]
  unfold tabAt
  rw[Int.toNat_natCast,List.getElem?_map,List.getElem?_eq_getElem hct]
  rfl
 have lb:(bef.map valV).length=bef.length:=by simp
 have t3:decide (((bef.map valV).length:Int)≤(kn:Int))=true:=decide_eq_true (by omega)
 have hn1:ctn<(ts.map tbV).length:=by omega
 refine fspec_lrn (fun R hh g=>(VwIn.slice (VwIn.there (VwIn.there (VwIn.there (VwIn.here hcb))))) hh g) ?_
 rintro⟨pb,cb,rfl⟩
 refine fspec_lrn (fun R hh g=>(VwIn.slice (VwIn.there (VwIn.there (VwIn.there (VwIn.here hca))))) hh g) ?_
 rintro⟨pa,ca,rfl⟩
 generalize ts[ctn]=tt at hx hkey
 obtain⟨tn,tc,⟨tcv,htcv⟩,tk,tr,tp⟩:=tt
 dsimp only at hkey
 subst hkey
 dsimp only[tbV]at hx
 dsimp only[cmV]
 refine spec_intro [] _ Tryz.func89 rfl Tryz.ntmps89 (by rfl) (fun w0 R=>?_)
 refine ok_learn (VwIn.base (n:=5) (p:=pu) (len:=(ts.map tbV).length) (cap:=cu) (xs:=ts.map tbV) (VwIn.there (VwIn.there (VwIn.there (VwIn.here hv)))) (by intro e;rw[e]at hn1;simp at hn1)) ?_
 rintro⟨bu,ou,rfl⟩
 repeat'(first|(refine gY ?_;intros)|(refine hY ?_ ?_<;>intro hgd)|(refine jY ?_ ?_<;>intro _)|fail)
 (refine rt_Y (y:=P) (hrs:=Tryz.results89) (hv:=?_) (hφ:=?_))
 ·rfl
 ·exact .refl _
theorem doer1_spec(bs bm b:Nat)(r:Rl)(vs:Value)(ts:List Tb)(c:Cm)(P:HProp)(hok:r.Ok)(hU:UT P)(hsv:SV P vs ts)(hts:ts.map Tb.c=r.s)(hvc:vs.oneCell'=true)(hc:ChI P c):
  FSpec Tryz.prog 89 [.agg (cmV c).toArray,.pointer (some ⟨bs,0,none⟩),.pointer (some ⟨bm,0,none⟩)] (doP bs bm b vs++[relP P b r,P]) HProp (fun P'=>Ext P P') (fun _=>.bool (doneC r c.c).2) (fun P'=>doP bs bm b vs++[relP P' b (doneC r c.c).1,P']):=by
 have h0:=hc.t0
 by_cases h:(r.s.length:Int)≤c.table
 ·have e:doneC r c.c=(r,false):=by unfold doneC opC Cm.c;dsimp only;rw[if_pos h]
  rw[e]
  exact doer1_far bs bm b r vs ts c P hsv hts hvc hc h
 ·have h':c.table<(r.s.length:Int):=by omega
  by_cases hk:c.kind=3
  ·have hh:hasS r.s c.table=true:=by unfold hasS;rw[hok.sch,decide_eq_true h0,decide_eq_true h'];rfl
   obtain⟨_,_,_,ht,_⟩:=hasS_tab hh
   obtain⟨kn,hkn⟩:∃ n:Nat,(tabAt r.s c.table).key=(n:Int):=⟨(tabAt r.s c.table).key.toNat,by have:=ht.key0;omega⟩
   cases hb:c.bef[kn]? with
   |some v=>exact doer1_del bs bm b r vs ts c P hok hU hsv hts hvc hc h' hk kn v hkn hb
   |none=>
    have e:doneC r c.c=(r,false):=by
     unfold doneC opC Cm.c
     dsimp only
     rw[if_neg h,if_pos hk,hkn,Int.toNat_natCast,hb]
    rw[e]
    exact doer1_none bs bm b r vs ts c P hsv hts hvc hc h' hk kn hkn (by
     rcases Nat.lt_or_ge kn c.bef.length with h1|h1
     ·rw[List.getElem?_eq_getElem h1]at hb;cases hb
     ·exact h1)
  ·exact doer1_lay bs bm b r vs ts c P hok hU hsv hts hvc hc h' hk
theorem doer_spec(b:Nat)(vs:Value)(hvc:vs.oneCell'=true):
  FSpec Tryz.prog 45 [.agg #[vs],.pointer (some ⟨b,0,none⟩)] [] (Nat×Nat) (fun _=>True) (fun y=>.func (.func 89) #[] [.pointer (some ⟨y.1,0,none⟩),.pointer (some ⟨y.2,0,none⟩)].toArray) (fun y=>doP y.1 y.2 b vs):=by
 refine spec_intro [] _ Tryz.func45 rfl Tryz.ntmps45 (by rfl) (fun w0 R=>?_)
 repeat'(first|(refine gY ?_;intros)|(refine hY ?_ ?_<;>intro hgd)|(refine jY ?_ ?_<;>intro _)|fail)
 rename_i b1 b2
 (refine rt_Y (y:=(b1,b2)) (hrs:=Tryz.results45) (hv:=?_) (hφ:=?_))
 ·rfl
 ·trivial
end Go.Proofs.YtmnafjonbeihiaaGreatDoor
