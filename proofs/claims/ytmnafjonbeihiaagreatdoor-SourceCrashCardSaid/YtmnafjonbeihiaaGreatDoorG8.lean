/- Texts merged: TxE TxF TxG TxH. -/
import Derived.Test.YtmnafjonbeihiaaGreatDoorG7
set_option linter.unusedSimpArgs false
set_option linter.unusedVariables false
set_option maxRecDepth 100000
set_option pp.deepTerms true
set_option pp.maxSteps 200000
namespace Go.Pl
open Go
def Tx.abortT(x:Tx):Tx:={x with over:=true}
def Tx.checkT(x:Tx)(on:Rl):Int:=if x.over then 150 else if on.turns≠x.t0 then 151 else bif x.own.whole then 0 else 140
end Go.Pl
namespace Go.Proofs.YtmnafjonbeihiaaGreatDoor
open Go Go.Fx Go.Proofs Go.Pl
theorem tx_over{P:HProp}{b bn bw:Nat}{x:Tx}{vr vl:Value}{rs:List Rm}{cs:List Cm}(hy:TxOK P x ⟨bw,vr,rs,vl,cs⟩){L:List HProp}{h:Frag}
  (s:SatL ([pts b (.cells [.pointer (some ⟨bn,0,none⟩),.pointer (some ⟨bw,0,none⟩),.int .u64 x.t0,vr,vl,.bool true].toArray 167),row 178 1 vr (rs.map rmF),row 61 4 vl (cs.map cmV),relP P bw x.own]++L) h):SatL (txP P b bn x.abortT::L) h:=
 tx_in (x:=x.abortT) (y:=⟨bw,vr,rs,vl,cs⟩) ⟨hy.vr,hy.vl,hy.rs,hy.redo,hy.cs,hy.l⟩ s
theorem txCheck1_spec(b bn bt:Nat)(x:Tx)(on:Rl)(P:HProp)(hx:x.Ok)(hov:x.over=false)(y:{y:TxY // TxOK P x y}):FSpec Tryz.prog 93 [.pointer (some ⟨bt,0,none⟩)] (txL P b bn x y++[relP P bn on,P,pts bt (.cells [.pointer (some ⟨b,0,none⟩)].toArray 97)]) Unit (fun _=>True)
  (fun _=>.int .i64 (x.checkT on)) (fun _=>txL P b bn x y++[relP P bn on,P]):=by
 obtain⟨⟨bw,vr,rs,vl,cs⟩,hy⟩:=y
 unfold txL
 dsimp only
 have ht:=relTurns_spec bn on P
 have hw:=relWhole_spec bw x.own P hx.own
 unfold Tx.checkT
 rw[hov,if_neg (by simp)]
 cases t1:(!decide (on.turns=x.t0))with
 |true=>
  rw[if_pos (by simpa using t1)]
  refine spec_intro [] _ Tryz.func93 rfl Tryz.ntmps93 (by rfl) (fun w0 R=>?_)
  repeat'(first|(refine gY ?_;intros)|(refine hY ?_ ?_<;>intro hgd)|(refine jY ?_ ?_<;>intro _)|fail)
  refine ok_drawL (cv:=[]) [4] ([pts b (.cells [.pointer (some ⟨bn,0,none⟩),.pointer (some ⟨bw,0,none⟩),.int .u64 x.t0,vr,vl,.bool false].toArray 167),pts bt (.cells [.pointer (some ⟨b,0,none⟩)].toArray 97)]) (takeD) (by kernel_rfl) rfl (by decide +kernel) ?_
  repeat'(first|(refine gY ?_;intros)|(refine hY ?_ ?_<;>intro hgd)|(refine jY ?_ ?_<;>intro _)|fail)
  refine clN_Y (ht) ?_
  intro _ _
  repeat'(first|(refine gY ?_;intros)|(refine hY ?_ ?_<;>intro hgd)|(refine jY ?_ ?_<;>intro _)|fail)
  (refine rt_Y (y:=()) (hrs:=Tryz.results93) (hv:=?_) (hφ:=?_))
  ·rfl
  ·trivial
 |false=>
  rw[if_neg (by simpa using t1)]
  refine spec_intro [] _ Tryz.func93 rfl Tryz.ntmps93 (by rfl) (fun w0 R=>?_)
  repeat'(first|(refine gY ?_;intros)|(refine hY ?_ ?_<;>intro hgd)|(refine jY ?_ ?_<;>intro _)|fail)
  refine ok_drawL (cv:=[]) [4] ([pts b (.cells [.pointer (some ⟨bn,0,none⟩),.pointer (some ⟨bw,0,none⟩),.int .u64 x.t0,vr,vl,.bool false].toArray 167),pts bt (.cells [.pointer (some ⟨b,0,none⟩)].toArray 97)]) (takeD) (by kernel_rfl) rfl (by decide +kernel) ?_
  repeat'(first|(refine gY ?_;intros)|(refine hY ?_ ?_<;>intro hgd)|(refine jY ?_ ?_<;>intro _)|fail)
  refine clN_Y (ht) ?_
  intro _ _
  repeat'(first|(refine gY ?_;intros)|(refine hY ?_ ?_<;>intro hgd)|(refine jY ?_ ?_<;>intro _)|fail)
  refine cl_Y (hw) ?_
  intro _ _
  repeat'(first|(refine gY ?_;intros)|(refine hY ?_ ?_<;>intro hgd)|(refine jY ?_ ?_<;>intro _)|fail)
  (refine rt_Y (y:=()) (hrs:=Tryz.results93) (hv:=?_) (hφ:=?_))
  ·rfl
  ·trivial
theorem txCheckL_spec(b bn:Nat)(x:Tx)(on:Rl)(P:HProp)(hx:x.Ok)(y:{y:TxY // TxOK P x y}):FSpec Tryz.prog 47 [.pointer (some ⟨b,0,none⟩)] (txL P b bn x y++[relP P bn on,P]) Unit (fun _=>True)
  (fun _=>.int .i64 (x.checkT on)) (fun _=>txL P b bn x y++[relP P bn on,P]):=by
 have h1:=fun bt hov=>txCheck1_spec b bn bt x on P hx hov y
 obtain⟨⟨bw,vr,rs,vl,cs⟩,hy⟩:=y
 unfold txL at h1 ⊢
 dsimp only at h1 ⊢
 refine spec_intro [] _ Tryz.func47 rfl Tryz.ntmps47 (by rfl) (fun w0 R=>?_)
 repeat'(first|(refine gY ?_;intros)|(refine hY ?_ ?_<;>intro hgd)|(refine jY ?_ ?_<;>intro _)|fail)
 rename_i bt
 have hm:=vspec_frame (vspec_bound (args:=[]) (txMay_spec b (.pointer (some ⟨bn,0,none⟩)) (.pointer (some ⟨bw,0,none⟩)) (.int .u64 x.t0) vr vl x.over)) [row 178 1 vr (rs.map rmF),row 61 4 vl (cs.map cmV),relP P bw x.own,relP P bn on,P,pts bt (.cells [.pointer (some ⟨b,0,none⟩)].toArray 97)]
 cases hov:x.over with
 |true=>
  rw[hov,cond_true]at hm
  have he:x.checkT on=150:=by unfold Tx.checkT;rw[hov,if_pos rfl]
  rw[he]
  refine cl_Y (when_no _ (.func (.func 93) #[] #[.pointer (some ⟨bt,0,none⟩)]) 150 (by decide) _ _ hm) ?_
  intro _ _
  repeat'(first|(refine gY ?_;intros)|(refine hY ?_ ?_<;>intro hgd)|(refine jY ?_ ?_<;>intro _)|fail)
  (refine rt_Y (y:=()) (hrs:=Tryz.results47) (hv:=?_) (hφ:=?_))
  ·rfl
  ·trivial
 |false=>
  rw[hov,cond_false]at hm
  have hd:=vspec_func (args:=[]) (cap:=[.pointer (some ⟨bt,0,none⟩)]) (h1 bt hov)
  rw[hov]at hd
  refine cl_Y (when_yes _ _ _ _ hm (g:=fun _=>x.checkT on) hd) ?_
  intro _ _
  repeat'(first|(refine gY ?_;intros)|(refine hY ?_ ?_<;>intro hgd)|(refine jY ?_ ?_<;>intro _)|fail)
  (refine rt_Y (y:=()) (hrs:=Tryz.results47) (hv:=?_) (hφ:=?_))
  ·rfl
  ·trivial
theorem txCheck_spec(b bn:Nat)(x:Tx)(on:Rl)(P:HProp)(hx:x.Ok):FSpec Tryz.prog 47 [.pointer (some ⟨b,0,none⟩)] [txP P b bn x,relP P bn on,P] Unit (fun _=>True)
  (fun _=>.int .i64 (x.checkT on)) (fun _=>[txP P b bn x,relP P bn on,P]):=by
 refine fspec_ex ?_
 intro y
 exact(txCheckL_spec b bn x on P hx y).conseq (fun _ _ s=>s) (fun _ _=>⟨(),trivial,rfl,fun R h s=>tx_in (y:=y.1) y.2 s⟩)
theorem cloneCh_spec(u:Value)(A:HProp)(l:List Cm)(hu:Vw A 4 u (l.map cmV))(hl:l.length≤1000000):
  FSpec Tryz.prog 43 [u] [A] {v:Value // v.oneCell'=true} (fun _=>True) (fun y=>y.1) (fun y=>[row 61 4 y.1 (l.map cmV),A]):=by
 have hlm:(l.map cmV).length=l.length:=by simp
 refine spec_intro [] _ Tryz.func43 rfl Tryz.ntmps43 (by rfl) (fun w0 R=>?_)
 refine ok_learn (VwIn.slice (VwIn.here hu)) ?_
 rintro⟨pu,cu,rfl⟩
 cases pu with
 |none=>
  refine ok_learn (vw_none hu) ?_
  intro hn
  repeat'(first|(refine gY ?_;intros)|(refine hY ?_ ?_<;>intro hgd)|(refine jY ?_ ?_<;>intro _)|fail)
  refine cont_map (fun _ h=>nilRow (e:=61) (n:=4) h) ?_
  rw[hn]
  (refine rt_Y (y:=⟨.slice none 0 0,rfl⟩) (hrs:=Tryz.results43) (hv:=?_) (hφ:=?_))
  ·rfl
  ·trivial
 |some a=>
  repeat'(first|(refine gY ?_;intros)|(refine hY ?_ ?_<;>intro hgd)|(refine jY ?_ ?_<;>intro _)|fail)
  rename_i v1 _ v2 hv2
  (refine rt_Y (y:=⟨v2,hv2⟩) (hrs:=Tryz.results43) (hv:=?_) (hφ:=?_))
  ·rfl
  ·trivial
set_option maxHeartbeats 4000000 in
theorem txChanges_spec(b bn:Nat)(x:Tx)(P:HProp)(hx:x.Ok):FSpec Tryz.prog 50 [.pointer (some ⟨b,0,none⟩)] [txP P b bn x,P] (V1s×List Cm×HProp)
  (fun y=>Ext P y.2.2∧(∀ c∈y.2.1,CmR y.2.2 c)∧y.2.1.map Cm.c=x.l) (fun y=>y.1.1) (fun y=>[row 61 4 y.1.1 (y.2.1.map cmV),txP y.2.2 b bn x,y.2.2]):=by
 refine fspec_ex ?_
 rintro⟨⟨bw,vr,rs,vl,cs⟩,hy⟩
 have hin:=fun P' (e:Ext P P') L h (s:SatL (txL P' b bn x ⟨⟨bw,vr,rs,vl,cs⟩,hy.ext e⟩++L) h)=>tx_in (hy.ext e) s
 unfold txL at hin ⊢
 dsimp only at hin ⊢
 obtain⟨h1,h2,h3,h4,h5,h6⟩:=hy
 dsimp only at h1 h2 h3 h4 h5 h6
 have hcl:cs.length=x.l.length:=by rw[← h6];simp
 have hcm:(cs.map cmV).length=cs.length:=by simp
 have hl60:=hx.len
 have hchg:∀ c∈cs,c.bef.length≤1000000∧c.aft.length≤1000000:=fun c hc=>hx.chg c.c (by rw[← h6];exact List.mem_map_of_mem hc)
 have hchl:∀ (c:Cm) (ck:List Cm),ck.map Cm.c=x.l→c∈ck→c.bef.length≤1000000∧c.aft.length≤1000000:=fun c ck e hc=>hx.chg c.c (by rw[← e];exact List.mem_map_of_mem hc)
 have hclo:=cloneCh_spec vl (row 61 4 vl (cs.map cmV)) cs Vw.row (by omega)
 refine spec_intro [] _ Tryz.func50 rfl Tryz.ntmps50 (by rfl) (fun w0 R=>?_)
 repeat'(first|(refine gY ?_;intros)|(refine hY ?_ ?_<;>intro hgd)|(refine jY ?_ ?_<;>intro _)|fail)
 refine cl_Y (hclo) ?_
 rintro⟨vt,hvt⟩ _
 refine ops_learn (row_shape' (e:=61) (n:=4) (v:=vt) (xs:=cs.map cmV) (by decide) takeD) ?_
 rintro⟨pt,ct,rfl,hct⟩
 repeat'(first|(refine gY ?_;intros)|(refine hY ?_ ?_<;>intro hgd)|(refine jY ?_ ?_<;>intro _)|fail)
 refine ok_map (L':=[P,row 61 4 (.slice pt (cs.map cmV).length ct) (cs.map cmV),pts b (.cells [.pointer (some ⟨bn,0,none⟩),.pointer (some ⟨bw,0,none⟩),.int .u64 x.t0,vr,vl,.bool x.over].toArray 167),row 178 1 vr (rs.map rmF),row 61 4 vl (cs.map cmV),relP P bw x.own]++R) entD ?_
 refine ok_loop' (γ:=Nat×List Cm×HProp) (fun y ρ L=>y.1≤cs.length∧(∀ c∈y.2.1,CmR y.2.2 c)∧y.2.1.map Cm.c=x.l∧Ext P y.2.2∧
   Knows ρ [(3,.slice pt (cs.map cmV).length ct),(13,.slice pt (cs.map cmV).length ct),(14,.int .i64 ((cs.map cmV).length:Int)),(15,.int .i64 y.1)]∧
   L=[y.2.2,row 61 4 (.slice pt (cs.map cmV).length ct) (y.2.1.map cmV),pts b (.cells [.pointer (some ⟨bn,0,none⟩),.pointer (some ⟨bw,0,none⟩),.int .u64 x.t0,vr,vl,.bool x.over].toArray 167),row 178 1 vr (rs.map rmF),row 61 4 vl (cs.map cmV),relP P bw x.own]++R) (fun y=>cs.length-y.1)
  (0,cs,P) ⟨by omega,h5,h6,Ext.refl P,⟨rfl,rfl,rfl,rfl,trivial⟩,rfl⟩ ?_
 rintro⟨k,ck,Q⟩ ρ L ⟨hk1,hcr,hmc,hext,hk,rfl⟩
 dsimp only at hk1 hcr hmc hext hk ⊢
 refine ok_regs hk ?_
 have hckl:ck.length=cs.length:=by rw[hcl,← hmc];simp
 cases t1:decide ((k:Int)<((cs.map cmV).length:Int))with
 |true=>
  have hkl:k<ck.length:=by have:=of_decide_eq_true t1;omega
  have hn1:k<(cs.map cmV).length:=by omega
  have hki:ck[k]? =some ck[k]:=List.getElem?_eq_getElem hkl
  have hxx:(ck.map cmV)[k]? =some (cmV ck[k]):=by rw[List.getElem?_map,hki];rfl
  have hckm:=List.getElem_mem hkl
  have hc:=hcr _ hckm
  obtain⟨hb1,ha1⟩:=hchl _ _ hmc hckm
  have hset:∀ v u,((ck.map cmV).set k ((cmV ck[k]).set 2 v.1)).set k (((cmV ck[k]).set 2 v.1).set 3 u.1)=(ck.set k {ck[k]with bv:=v,av:=u}).map cmV:=fun v u=>by rw[List.map_set,List.set_set];rfl
  have hcs:∀ v u,(ck.set k {ck[k]with bv:=v,av:=u}).map Cm.c=x.l:=fun v u=>by
   rw[List.map_set,← hmc]
   apply List.ext_getElem?
   intro j
   rw[List.getElem?_set]
   split
   ·rename_i e;subst e
    rw[List.getElem?_map,hki]
    rw[if_pos (by rw[List.length_map];exact hkl)];rfl
   ·rfl
  have hts:∀ v u P',Ext Q P'→Vw P' 4 v.1 (ck[k].bef.map valV)→Vw P' 4 u.1 (ck[k].aft.map valV)→∀ t∈ck.set k {ck[k]with bv:=v,av:=u},CmR P' t:=fun v u P' e hv hu t ht=>by
   rcases List.mem_or_eq_of_mem_set ht with ht|rfl
   ·exact(hcr t ht).ext e
   ·exact⟨hv,hu⟩
  have hsl:(ck.map cmV).length=(cs.map cmV).length:=by rw[List.length_map,List.length_map,hckl]
  refine ok_learn (rowShape (e:=61) (n:=4) (v:=.slice pt (cs.map cmV).length ct) (xs:=ck.map cmV) (by decide) takeD) ?_
  rintro(⟨e,hn⟩|⟨g,cap,e,_⟩)
  ·rw[hn]at hsl;simp at hsl;omega
  simp only[Value.slice.injEq]at e
  obtain⟨rfl,_,rfl⟩:=e
  generalize ck[k]=c at hxx hc hb1 ha1 hset hcs hts
  obtain⟨ckd,ctb,⟨cbv,hcbv⟩,cbef,⟨cav,hcav⟩,caft⟩:=c
  obtain⟨hvb,hva⟩:=hc
  dsimp only at hvb hva hb1 ha1 hts hcs hset
  dsimp only[cmV]at hxx hset
  refine ok_learn (VwIn.slice (VwIn.here hvb)) ?_
  rintro⟨pb,cb,rfl⟩
  refine ok_learn (VwIn.slice (VwIn.here hva)) ?_
  rintro⟨pa,ca,rfl⟩
  have hc1:=cloneV_spec (.slice pb (cbef.map valV).length cb) Q cbef hvb hb1
  have hc2:=cloneV_spec (.slice pa (caft.map valV).length ca) Q caft hva ha1
  repeat'(first|(refine gY ?_;intros)|(refine hY ?_ ?_<;>intro hgd)|(refine jY ?_ ?_<;>intro _)|fail)
  rename_i b5
  refine ok_map (L':=[Q,row 61 4 (.slice (some ⟨g,0,none⟩) (cs.map cmV).length ct) (ck.map cmV),pts b5 (.cells [.int .u8 ckd,.int .i64 ctb,.slice pb (cbef.map valV).length cb,.slice pa (caft.map valV).length ca].toArray 61),pts b (.cells [.pointer (some ⟨bn,0,none⟩),.pointer (some ⟨bw,0,none⟩),.int .u64 x.t0,vr,vl,.bool x.over].toArray 167),row 178 1 vr (rs.map rmF),row 61 4 vl (cs.map cmV),relP P bw x.own]++R) entD ?_
  refine ok_drawL (cv:=[]) [6] ([pts b5 (.cells [.int .u8 ckd,.int .i64 ctb,.slice pb (cbef.map valV).length cb,.slice pa (caft.map valV).length ca].toArray 61)]) (takeD) (by kernel_rfl) rfl (by decide +kernel) ?_
  repeat'(first|(refine gY ?_;intros)|(refine hY ?_ ?_<;>intro hgd)|(refine jY ?_ ?_<;>intro _)|fail)
  refine clN_Y (hc1) ?_
  rintro⟨v1,hv1⟩ _
  repeat'(first|(refine gY ?_;intros)|(refine hY ?_ ?_<;>intro hgd)|(refine jY ?_ ?_<;>intro _)|fail)
  refine cl_Y (hc2) ?_
  rintro⟨v2,hv2⟩ _
  repeat'(first|(refine gY ?_;intros)|(refine hY ?_ ?_<;>intro hgd)|(refine jY ?_ ?_<;>intro _)|fail)
  have hs1:=hset ⟨v1,hv1⟩ ⟨v2,hv2⟩
  have hset1:((ck.map cmV).set k ([.int .u8 ckd,.int .i64 ctb,.slice pb (cbef.map valV).length cb,.slice pa (caft.map valV).length ca].set 2 v1))[k]? =some ([.int .u8 ckd,.int .i64 ctb,.slice pb (cbef.map valV).length cb,.slice pa (caft.map valV).length ca].set 2 v1):=by rw[List.getElem?_set_self (by omega)]
  refine ops_run (s_storeRowN (y:=[.int .u8 ckd,.int .i64 ctb,.slice pb (cbef.map valV).length cb,.slice pa (caft.map valV).length ca]) (by rfl) (by rfl) (one_cells hv1) hv1 selD hxx rfl rfl ?_)
  repeat'(first|(refine gY ?_;intros)|(refine hY ?_ ?_<;>intro hgd)|(refine jY ?_ ?_<;>intro _)|fail)
  refine ops_run (s_storeRowN (y:=[.int .u8 ckd,.int .i64 ctb,.slice pb (cbef.map valV).length cb,.slice pa (caft.map valV).length ca].set 2 v1) (by rfl) (by rfl) (one_cells hv2) hv2 selD hset1 rfl rfl ?_)
  rw[hs1]
  repeat'(first|(refine gY ?_;intros)|(refine hY ?_ ?_<;>intro hgd)|(refine jY ?_ ?_<;>intro _)|fail)
  have e1:=Ext.pool (row 93 4 v1 (cbef.map valV)) Q
  have w1:Vw (pool (row 93 4 v1 (cbef.map valV)) Q) 4 v1 (cbef.map valV):=pool_row
  refine cont_map (fun _ h=>pool_in (A:=row 93 4 v1 (cbef.map valV)) (P:=Q) (Take.out2 takeD h)) ?_
  generalize pool (row 93 4 v1 (cbef.map valV)) Q=Q1 at e1 w1
  have e2:=Ext.pool (row 93 4 v2 (caft.map valV)) Q1
  have w2:Vw (pool (row 93 4 v2 (caft.map valV)) Q1) 4 v2 (caft.map valV):=pool_row
  refine cont_map (fun _ h=>pool_in (A:=row 93 4 v2 (caft.map valV)) (P:=Q1) (Take.out2 takeD h)) ?_
  generalize pool (row 93 4 v2 (caft.map valV)) Q1=Q2 at e2 w2
  have e12:=e1.trans e2
  have hts':=hts ⟨v1,hv1⟩ ⟨v2,hv2⟩ Q2 e12 (e2.vw w1) w2
  have hcs':=hcs ⟨v1,hv1⟩ ⟨v2,hv2⟩
  refine cont_map (L':=[Q2,row 61 4 (.slice (some ⟨g,0,none⟩) (cs.map cmV).length ct) ((ck.set k ⟨ckd,ctb,⟨v1,hv1⟩,cbef,⟨v2,hv2⟩,caft⟩).map cmV),pts b (.cells [.pointer (some ⟨bn,0,none⟩),.pointer (some ⟨bw,0,none⟩),.int .u64 x.t0,vr,vl,.bool x.over].toArray 167),row 178 1 vr (rs.map rmF),row 61 4 vl (cs.map cmV),relP P bw x.own]++R) entD ?_
  refine cont_back (k+1,ck.set k ⟨ckd,ctb,⟨v1,hv1⟩,cbef,⟨v2,hv2⟩,caft⟩,Q2) ⟨by dsimp only;omega,hts',hcs',hext.trans e12,⟨rfl,rfl,rfl,rfl,trivial⟩,rfl⟩ (by show cs.length-(k+1)<cs.length-k;omega)
 |false=>
  repeat'(first|(refine gY ?_;intros)|(refine hY ?_ ?_<;>intro hgd)|(refine jY ?_ ?_<;>intro _)|fail)
  refine cont_map (fun _ h=>relP_ext (b:=bw) (r:=x.own) hext (Take.out1 takeD h)) ?_
  refine cont_map (fun _ h=>hin Q hext _ _ (Take.out takeD h)) ?_
  have hsl:(ck.map cmV).length=(cs.map cmV).length:=by rw[List.length_map,List.length_map,hckl]
  (refine rt_Y (y:=(⟨.slice pt (cs.map cmV).length ct,rfl⟩,ck,Q)) (hrs:=Tryz.results50) (hv:=?_) (hφ:=?_))
  ·rfl
  ·exact⟨hext,hcr,hmc⟩
end Go.Proofs.YtmnafjonbeihiaaGreatDoor
namespace Go.Pl
open Go
def Rl.play(r:Rl)(l:List Opr):Rl:=l.foldl (fun r o=>(r.doOp o).1) r
theorem Rl.Ok.play{r:Rl}(h:r.Ok):∀ (l:List Opr),(r.play l).Ok
 | []=>h
 |o::l=>Rl.Ok.play (h.doOp o) l
theorem Rl.play_snoc(r:Rl)(l:List Opr)(o:Opr):r.play (l++[o])=((r.play l).doOp o).1:=by
 unfold Rl.play;rw[List.foldl_append];rfl
end Go.Pl
namespace Go.Proofs.YtmnafjonbeihiaaGreatDoor
open Go Go.Fx Go.Proofs Go.Pl
theorem again_spec(bn bx:Nat)(r:Rl)(o:Opr)(w:Value)(P:HProp)(hok:r.Ok)(hU:UT P)(hrd:Rd P bx (.cells [.int .u8 o.kind,.int .i64 o.table,w].toArray 24))(hw:Vw P 4 w (o.row.map valV))(hwc:w.oneCell'=true)(hwf:∀ v∈o.row,v.wf)(hlen:o.row.length≤1000000):
  FSpec Tryz.prog 103 [.pointer (some ⟨bn,0,none⟩),.pointer (some ⟨bx,0,none⟩)] [relP P bn r,P] HProp (fun P'=>Ext P P') (fun _=>.tuple #[]) (fun P'=>[relP P' bn (r.doOp o).1,P']):=by
 have hdo:=relDo_spec bn r o w P hok hU hw hwc hwf hlen
 refine spec_intro [] _ Tryz.func103 rfl Tryz.ntmps103 (by rfl) (fun w0 R=>?_)
 repeat'(first|(refine gY ?_;intros)|(refine hY ?_ ?_<;>intro hgd)|(refine jY ?_ ?_<;>intro _)|fail)
 refine cl_Y (hdo) ?_
 rintro⟨⟨b4,hb4⟩,⟨a4,ha4⟩,P'⟩ ⟨hE',hbv⟩
 dsimp only at hE' hbv ⊢
 repeat'(first|(refine gY ?_;intros)|(refine hY ?_ ?_<;>intro hgd)|(refine jY ?_ ?_<;>intro _)|fail)
 (refine rt_Y (y:=P') (hrs:=Tryz.results103) (hv:=?_) (hφ:=?_))
 ·rfl
 ·exact hE'
set_option maxHeartbeats 4000000 in
theorem commit_yes(b bn:Nat)(x:Tx)(on:Rl)(P:HProp)(hx:x.Ok)(hU:UT P)(hon:on.Ok)(h0:x.checkT on=0):FSpec Tryz.prog 51 [.pointer (some ⟨b,0,none⟩)] [txP P b bn x,relP P bn on,P] (V1s×List Cm×HProp)
  (fun y=>Ext P y.2.2∧(∀ c∈y.2.1,CmR y.2.2 c)∧y.2.1.map Cm.c=x.l) (fun y=>.tuple #[y.1.1,.int .i64 0]) (fun y=>[row 61 4 y.1.1 (y.2.1.map cmV),txP y.2.2 b bn x.abortT,relP y.2.2 bn (on.play x.redo),y.2.2]):=by
 refine fspec_ex ?_
 rintro⟨⟨bw,vr,rs,vl,cs⟩,hy⟩
 have hc:=txCheckL_spec b bn x on P hx ⟨⟨bw,vr,rs,vl,cs⟩,hy⟩
 unfold txL at hc ⊢
 dsimp only at hc ⊢
 rw[h0]at hc
 have f1:decide ((0:Int)=(150:Int))=false:=by decide
 have f2:(!decide ((0:Int)=(0:Int)))=false:=by decide
 have hrl:(rs.map rmF).length=rs.length:=by simp
 have hrr:rs.length=x.redo.length:=by rw[← hy.redo];simp
 have hl60:=hx.len
 have hrq:=hx.rlen
 have hxa:x.abortT.Ok:=⟨hx.own,hx.len,hx.rlen,hx.rows,hx.chg,hx.t0,hx.t1⟩
 refine spec_intro [] _ Tryz.func51 rfl Tryz.ntmps51 (by rfl) (fun w0 R=>?_)
 refine ok_learn (row_shape' (e:=178) (n:=1) (v:=vr) (xs:=rs.map rmF) (by decide) takeD) ?_
 rintro⟨pr,cr,rfl,hcr⟩
 repeat'(first|(refine gY ?_;intros)|(refine hY ?_ ?_<;>intro hgd)|(refine jY ?_ ?_<;>intro _)|fail)
 refine cl_Y (hc) ?_
 intro _ _
 repeat'(first|(refine gY ?_;intros)|(refine hY ?_ ?_<;>intro hgd)|(refine jY ?_ ?_<;>intro _)|fail)
 refine ok_map (L':=[relP P bn on,P,pts b (.cells [.pointer (some ⟨bn,0,none⟩),.pointer (some ⟨bw,0,none⟩),.int .u64 x.t0,.slice pr (rs.map rmF).length cr,vl,.bool true].toArray 167),row 178 1 (.slice pr (rs.map rmF).length cr) (rs.map rmF),row 61 4 vl (cs.map cmV),relP P bw x.own]++R) entD ?_
 refine ok_loop' (γ:=Nat×HProp) (fun y ρ L=>y.1≤rs.length∧Ext P y.2∧Knows ρ [(0,.pointer (some ⟨b,0,none⟩)),(25,.slice pr (rs.map rmF).length cr),(26,.int .i64 ((rs.map rmF).length:Int)),(27,.int .i64 y.1)]∧
   L=[relP y.2 bn (on.play (x.redo.take y.1)),y.2,pts b (.cells [.pointer (some ⟨bn,0,none⟩),.pointer (some ⟨bw,0,none⟩),.int .u64 x.t0,.slice pr (rs.map rmF).length cr,vl,.bool true].toArray 167),row 178 1 (.slice pr (rs.map rmF).length cr) (rs.map rmF),row 61 4 vl (cs.map cmV),relP P bw x.own]++R) (fun y=>rs.length-y.1)
  (0,P) ⟨by omega,Ext.refl P,⟨rfl,rfl,rfl,rfl,trivial⟩,rfl⟩ ?_
 rintro⟨k,Q⟩ ρ L ⟨hk1,hext,hk,rfl⟩
 dsimp only at hk1 hext hk ⊢
 refine ok_regs hk ?_
 cases t1:decide ((k:Int)<((rs.map rmF).length:Int))with
 |true=>
  have hkl:k<rs.length:=by have:=of_decide_eq_true t1;omega
  have hn1:k<(rs.map rmF).length:=by omega
  have hki:rs[k]? =some rs[k]:=List.getElem?_eq_getElem hkl
  have hxx:(rs.map rmF)[k]? =some (rmF rs[k]):=by rw[List.getElem?_map,hki];rfl
  have hm:=List.getElem_mem hkl
  have hrm:=(hy.rs _ hm).ext hext
  have hrow:=hx.rows rs[k].c (by rw[← hy.redo];exact List.mem_map_of_mem hm)
  have htk:x.redo.take (k+1)=x.redo.take k++[rs[k].c]:=by
   rw[← hy.redo,List.take_succ_eq_append_getElem (by rw[List.length_map];exact hkl)]
   simp
  refine ok_learn (rowShape (e:=178) (n:=1) (v:=.slice pr (rs.map rmF).length cr) (xs:=rs.map rmF) (by decide) takeD) ?_
  rintro(⟨e,hn⟩|⟨g,cap,e,_⟩)
  ·rw[hn]at hn1;simp at hn1
  simp only[Value.slice.injEq]at e
  obtain⟨rfl,_,rfl⟩:=e
  have hag:=again_spec bn rs[k].bx (on.play (x.redo.take k)) rs[k].c rs[k].w.1 Q (hon.play _) (hU.ext hext) hrm.rd hrm.vw rs[k].w.2 hrow.2 hrow.1
  have hps:=Rl.play_snoc on (x.redo.take k) rs[k].c
  rw[← htk]at hps
  generalize rs[k]=q at hxx hag hps
  dsimp only[rmF]at hxx
  have hv:=vspec_func (args:=[.pointer (some ⟨bn,0,none⟩)]) (cap:=[.pointer (some ⟨q.bx,0,none⟩)]) hag
  rw[← hps]at hv
  repeat'(first|(refine gY ?_;intros)|(refine hY ?_ ?_<;>intro hgd)|(refine jY ?_ ?_<;>intro _)|fail)
  refine clV_Y (hv) ?_
  intro Q' hE
  repeat'(first|(refine gY ?_;intros)|(refine hY ?_ ?_<;>intro hgd)|(refine jY ?_ ?_<;>intro _)|fail)
  refine cont_map (L':=[relP Q' bn (on.play (x.redo.take (k+1))),Q',pts b (.cells [.pointer (some ⟨bn,0,none⟩),.pointer (some ⟨bw,0,none⟩),.int .u64 x.t0,.slice (some ⟨g,0,none⟩) (rs.map rmF).length cr,vl,.bool true].toArray 167),row 178 1 (.slice (some ⟨g,0,none⟩) (rs.map rmF).length cr) (rs.map rmF),row 61 4 vl (cs.map cmV),relP P bw x.own]++R) entD ?_
  refine cont_back (k+1,Q') ⟨by dsimp only;omega,hext.trans hE,⟨rfl,rfl,rfl,rfl,trivial⟩,rfl⟩ (by show rs.length-(k+1)<rs.length-k;omega)
 |false=>
  have hkr:k=rs.length:=by have:=of_decide_eq_false t1;omega
  have htk:x.redo.take k=x.redo:=by rw[List.take_of_length_le (by omega)]
  rw[htk]
  have hch:=txChanges_spec b bn x.abortT Q hxa
  repeat'(first|(refine gY ?_;intros)|(refine hY ?_ ?_<;>intro hgd)|(refine jY ?_ ?_<;>intro _)|fail)
  refine opsL_map (fun _ h=>relP_ext (b:=bw) (r:=x.own) hext (Take.out1 takeD h)) ?_
  refine opsL_map (fun _ h=>tx_over (b:=b) (bn:=bn) (hy.ext hext) (Take.out takeD h)) ?_
  refine cl_Y (hch) ?_
  rintro⟨⟨v,hv⟩,ck,Q'⟩ ⟨hE,hcr',hcm⟩
  dsimp only at hE hcr' hcm ⊢
  repeat'(first|(refine gY ?_;intros)|(refine hY ?_ ?_<;>intro hgd)|(refine jY ?_ ?_<;>intro _)|fail)
  refine cont_map (fun _ h=>relP_ext (b:=bn) (r:=on.play x.redo) hE (Take.out1 takeD h)) ?_
  (refine rt_Y (y:=(⟨v,hv⟩,ck,Q')) (hrs:=Tryz.results51) (hv:=?_) (hφ:=?_))
  ·rfl
  ·exact⟨hext.trans hE,hcr',hcm⟩
def ax0:Tx:=⟨al0,al0.turns,[],[],false⟩
def ax1:Tx:=(ax0.doT alO2).1
def ax2:Tx:=(ax1.doT alO1).1
theorem alO1_row:alO1.row.length≤1000000∧∀ v∈alO1.row,v.wf:=⟨by decide,fun v hv=>by rw[List.mem_singleton.1 hv];exact nV_wf (by decide) (by decide)⟩
theorem tx_new_ok{r:Rl}(h:r.Ok):Tx.Ok ⟨r,r.turns,[],[],false⟩:=⟨h,by simp,rfl,fun _ h=>by simp at h,fun _ h=>by simp at h,h.t0,h.t1⟩
theorem Tx.Ok.abortT{x:Tx}(hx:x.Ok):x.abortT.Ok:=⟨hx.own,hx.len,hx.rlen,hx.rows,hx.chg,hx.t0,hx.t1⟩
theorem ops_pool{X:Cx}{ops:Array Oper}{st:List Nat}{T:List HProp}{N:Act→World→Prop}{i:Nat}{os:List Oper}{ds:List Deferred}{ρ:Regs}{L R:List HProp}(A P:HProp)(t:Take L [A,P] R)
  (h:∀ P',Ext P P'→Ext A P'→OpsL X ops ⟨[],st,T⟩ N i os (P'::R) ds ρ (P'::R)):OpsL X ops ⟨[],st,T⟩ N i os L ds ρ L:=
 opsL_map (fun _ s=>pool_in (A:=A) (P:=P) (Take.out2 t s)) (h _ (Ext.pool A P) (Ext.poolL A P))
end Go.Proofs.YtmnafjonbeihiaaGreatDoor
