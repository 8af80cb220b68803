/- Texts merged: G5 G6. -/
import Derived.Test.YtmnafjonbeihiaaGreatDoorG4
import Derived.Test.YtmnafjonbeihiaaGreatDoorH35
/- Texts merged: L14A L14B L14C L14D. -/
set_option linter.unusedSimpArgs false
set_option linter.unusedVariables false
set_option maxRecDepth 100000
namespace Go.Proofs.YtmnafjonbeihiaaGreatDoor
open Go Go.Fx Go.Proofs Go.Pl
instance:DecidableEq (List Vl):=inferInstance
def twoS:Sc:=[⟨⟨#[97]⟩,[⟨⟨#[105,100]⟩,2,false⟩],0, -1, -1⟩,⟨⟨#[98]⟩,[⟨⟨#[105,100]⟩,2,false⟩,⟨⟨#[111,102]⟩,2,false⟩],0,1,0⟩]
theorem two_ok:checkS twoS=true:=by decide +kernel
theorem quo_nat(n k:Nat)(hk:0<k)(h:n≤140737488355328):IntKind.i64.wrap ((n:Int).tdiv (k:Int))=((n / k:Nat):Int):=by
 have e:(n:Int).tdiv (k:Int)=((n / k:Nat):Int):=by rw[Int.ofNat_tdiv]
 rw[e]
 have:n / k≤n:=Nat.div_le_self n k
 generalize n / k=q at this ⊢
 exact wrap_i64 (by omega) (by omega)
set_option maxHeartbeats 1000000 in
theorem long_spec(u:Value)(A:HProp)(l:List Vl)(hA:Vw A 4 u (l.map valV))(hz:l.length≤140737488355328)(hs:∀ v∈l,v.text.size≤140737488355328):
  FSpec Tryz.prog 39 [u] [A] Bool (fun y=>y=false→l.length≤4000) (fun y=>.bool y) (fun _=>[A]):=by
 have lm:(l.map valV).length=l.length:=by simp
 refine spec_intro [] _ Tryz.func39 rfl Tryz.ntmps39 (by rfl) (fun w0 R=>?_)
 refine ok_learn (VwIn.slice (VwIn.here hA)) ?_
 rintro⟨pu,cu,rfl⟩
 repeat'(first|(refine gY ?_;intros)|(refine hY ?_ ?_<;>intro hgd)|(refine jY ?_ ?_<;>intro _)|fail)
 refine ok_loop' (γ:=Nat×Nat) (fun g ρ L=>g.1≤l.length∧g.1≤100∧l.length≤g.2∧g.2≤l.length+g.1*140737488355328∧Knows ρ [(0,.slice pu (l.map valV).length cu),(3,.int .i64 (g.2:Int)),(4,.int .i64 g.1)]∧L=[A]++R) (fun g=>l.length-g.1) (0,l.length)
  ⟨by omega,by omega,by simp,by simp,⟨rfl,by show Value.int .i64 ((l.map valV).length:Int)=_;rw[lm],rfl,trivial⟩,rfl⟩ ?_
 rintro⟨i,n⟩ ρ L ⟨hi,hi1,hn1,hn2,hk,rfl⟩
 dsimp only at hi hi1 hn1 hn2 hk ⊢
 refine ok_regs hk ?_
 cases t1:decide ((i:Int)<((l.map valV).length:Int))with
 |false=>
  repeat'(first|(refine gY ?_;intros)|(refine hY ?_ ?_<;>intro hgd)|(refine jY ?_ ?_<;>intro _)|fail)
  (refine rt_Y (y:=decide ((4000:Int)<(n:Int))) (hrs:=Tryz.results39) (hv:=?_) (hφ:=?_))
  ·rfl
  ·intro hb
   have:=of_decide_eq_false hb
   omega
 |true=>
  have h:i<l.length:=by have:=of_decide_eq_true t1;omega
  cases t2:decide ((i:Int)<100)with
  |false=>
   repeat'(first|(refine gY ?_;intros)|(refine hY ?_ ?_<;>intro hgd)|(refine jY ?_ ?_<;>intro _)|fail)
   (refine rt_Y (y:=decide ((4000:Int)<(n:Int))) (hrs:=Tryz.results39) (hv:=?_) (hφ:=?_))
   ·rfl
   ·intro hb
    have:=of_decide_eq_false hb
    omega
  |true=>
   have h2:i<100:=by have:=of_decide_eq_true t2;omega
   have hx:(l.map valV)[i]? =some (valV l[i]):=by rw[List.getElem?_map,List.getElem?_eq_getElem h];rfl
   have hnn:i<(l.map valV).length:=by omega
   have hsz:=hs _ (List.getElem_mem h)
   refine ok_learn (VwIn.base (VwIn.here hA) (by intro e;rw[e]at hnn;simp at hnn)) ?_
   rintro⟨bu,ou,rfl⟩
   generalize l[i]=v at hx hsz
   obtain⟨vk,vi,vr,vs⟩:=v
   dsimp only[valV]at hx hsz
   have hq:=quo_nat vs.size 8 (by decide) hsz
   have hqb:vs.size / 8≤140737488355328:=Nat.le_trans (Nat.div_le_self _ _) hsz
   generalize vs.size / 8=q at hq hqb
   have hq':IntKind.i64.wrap ((vs.size:Int).tdiv 8)=(q:Int):=hq
   have hib:i*140737488355328≤100*140737488355328:=Nat.mul_le_mul_right _ hi1
   repeat'(first|(refine gY ?_;intros)|(refine hY ?_ ?_<;>intro hgd)|(refine jY ?_ ?_<;>intro _)|fail)
   refine cont_back (i+1,n+q) ⟨h,by dsimp only;omega,by dsimp only;omega,by dsimp only;rw[Nat.succ_mul];omega,⟨rfl,by show Value.int .i64 ((n:Int)+(q:Int))=_;simp,rfl,trivial⟩,rfl⟩ (by show l.length-(i+1)<l.length-i;omega)
def cId:Co:=⟨⟨#[105,100]⟩,2,false⟩
def cOf:Co:=⟨⟨#[111,102]⟩,2,false⟩
def twoT(g1 c1 g2 c2:Nat):List Tb:=[⟨⟨#[97]⟩,[cId],⟨.slice (some ⟨g1,0,none⟩) 1 c1,rfl⟩,0, -1, -1⟩,⟨⟨#[98]⟩,[cId,cOf],⟨.slice (some ⟨g2,0,none⟩) 2 c2,rfl⟩,0,1,0⟩]
set_option maxHeartbeats 1000000 in
theorem two_spec:FSpec Tryz.prog 41 [] [] (V1s×List Tb×HProp) (fun y=>SV y.2.2 y.1.1 y.2.1∧y.2.1.map Tb.c=twoS) (fun y=>.agg #[y.1.1]) (fun y=>[y.2.2]):=by
 refine spec_intro [] _ Tryz.func41 rfl Tryz.ntmps41 (by rfl) (fun w0 R=>?_)
 repeat'(first|(refine gY ?_;intros)|(refine hY ?_ ?_<;>intro hgd)|(refine jY ?_ ?_<;>intro _)|fail)
 rename_i b0 v1 hv1
 refine ops_learn (rowShape (e:=163) (n:=3) (v:=v1) (xs:=[coV ⟨⟨#[105,100]⟩,2,false⟩]) (by decide) takeD) ?_
 rintro(⟨rfl,hn⟩|⟨g1,c1,rfl,hc1⟩)
 ·cases hn
 repeat'(first|(refine gY ?_;intros)|(refine hY ?_ ?_<;>intro hgd)|(refine jY ?_ ?_<;>intro _)|fail)
 rename_i v2 hv2
 refine ops_learn (rowShape (e:=163) (n:=3) (v:=v2) (xs:=[coV ⟨⟨#[105,100]⟩,2,false⟩,coV ⟨⟨#[111,102]⟩,2,false⟩]) (by decide) takeD) ?_
 rintro(⟨rfl,hn⟩|⟨g2,c2,rfl,hc2⟩)
 ·cases hn
 repeat'(first|(refine gY ?_;intros)|(refine hY ?_ ?_<;>intro hgd)|(refine jY ?_ ?_<;>intro _)|fail)
 rename_i v3 hv3
 refine ops_learn (rowShape (e:=111) (n:=5) (v:=v3) (xs:=[[.string ⟨#[97]⟩,.slice (some ⟨g1,0,none⟩) 1 c1,.int .i64 0,.int .i64 (-1),.int .i64 (-1)],[.string ⟨#[98]⟩,.slice (some ⟨g2,0,none⟩) 2 c2,.int .i64 0,.int .i64 1,.int .i64 0]]) (by decide) takeD) ?_
 rintro(⟨rfl,hn⟩|⟨g3,c3,rfl,hc3⟩)
 ·cases hn
 repeat'(first|(refine gY ?_;intros)|(refine hY ?_ ?_<;>intro hgd)|(refine jY ?_ ?_<;>intro _)|fail)
 refine cont_map (fun _ h=>pool_in (A:=row 163 3 (.slice (some ⟨g2,0,none⟩) 2 c2) [coV cId,coV cOf]) (P:=row 163 3 (.slice (some ⟨g1,0,none⟩) 1 c1) [coV cId]) (Take.out2 takeD h)) ?_
 refine cont_map (fun _ h=>pool_in (A:=row 111 5 (.slice (some ⟨g3,0,none⟩) 2 c3) ((twoT g1 c1 g2 c2).map tbV)) (P:=pool (row 163 3 (.slice (some ⟨g2,0,none⟩) 2 c2) [coV cId,coV cOf]) (row 163 3 (.slice (some ⟨g1,0,none⟩) 1 c1) [coV cId])) (Take.out2 takeD h)) ?_
 (refine rt_Y (y:=(⟨.slice (some ⟨g3,0,none⟩) 2 c3,rfl⟩,(twoT g1 c1 g2 c2),pool (row 111 5 (.slice (some ⟨g3,0,none⟩) 2 c3) ((twoT g1 c1 g2 c2).map tbV)) (pool (row 163 3 (.slice (some ⟨g2,0,none⟩) 2 c2) [coV cId,coV cOf]) (row 163 3 (.slice (some ⟨g1,0,none⟩) 1 c1) [coV cId])))) (hrs:=Tryz.results41) (hv:=?_) (hφ:=?_))
 ·rfl
 ·refine⟨⟨pool_row,fun t ht=>?_,by show(2:Nat)≤_;decide,⟨_,_,_,rfl,hc3⟩⟩,rfl⟩
  simp only[twoT,List.mem_cons,List.not_mem_nil,or_false]at ht
  rcases ht with rfl|rfl
  ·exact⟨(Ext.pool _ _).vw ((Ext.pool _ _).vw Vw.row),by show(1:Nat)≤_;decide,by show(1:Nat)≤140737488355328;decide,fun c hc=>by
   simp only[List.mem_cons,List.not_mem_nil,or_false]at hc
   subst hc;decide⟩
  ·exact⟨(Ext.pool _ _).vw pool_row,by show(2:Nat)≤_;decide,by show(1:Nat)≤140737488355328;decide,fun c hc=>by
   simp only[List.mem_cons,List.not_mem_nil,or_false]at hc
   rcases hc with rfl|rfl<;>decide⟩
def nV(n:Int):Vl:=⟨2,n,0,⟨#[]⟩⟩
theorem nV_wf{n:Int}(h0:0≤n)(h1:n≤10):(nV n).wf:=⟨by show(0:Int)≤2;decide,by show(2:Int)≤255;decide,by show _≤n;omega,by show n≤_;omega,by show(0:Int)≤0;decide,by show(0:Int)≤_;decide,by show(0:Nat)≤_;decide⟩
def al0:Rl:=⟨twoS,[],0⟩
def alO1:Opr:=⟨1,0,[nV 1]⟩
def alO2:Opr:=⟨1,1,[nV 2,nV 1]⟩
def alO3:Opr:=⟨3,0,[nV 1]⟩
def al1:Rl:=(al0.doOp alO1).1
def al2:Rl:=(al1.doOp alO2).1
def al3:Rl:=(al2.doOp alO3).1
theorem ext_in{A P:HProp}(e:Ext A P){L:List HProp}{h:Frag}(s:SatL (P::L) h):SatL (A::L) h:=by
 obtain⟨h1,h2,ha,l1,l2,hP,hL⟩:=s
 obtain⟨h1',l1',hA⟩:=e h1 hP
 exact⟨h1',h2,ha.sub l1' (Frag.le.refl _),l1'.trans l1,l2,hA,hL⟩
structure TbR(A:HProp)(t:Tb):Prop where
 vw:Vw A 3 t.cv.1 (t.cols.map coV)
 len:t.cols.length≤5864062014805
 nm:t.name.size≤140737488355328
 cnm:∀ c∈t.cols,c.name.size≤140737488355328
structure SVr(A:HProp)(vs:Value)(ts:List Tb):Prop where
 vw:Vw A 5 vs (ts.map tbV)
 tab:∀ t∈ts,TbR A t
 len:ts.length≤140737488355328
 cap:capOk vs
def smallS(ts:List Tb):Prop:=ts.length≤30∧∀ t∈ts,t.cols.length≤600
theorem SVr.sv{A:HProp}{vs:Value}{ts:List Tb}(h:SVr A vs ts)(_:smallS ts):SV A vs ts:=
 ⟨h.vw,fun t ht=>⟨(h.tab t ht).vw,(h.tab t ht).len,(h.tab t ht).nm,(h.tab t ht).cnm⟩,h.len,h.cap⟩
theorem SVr.sv0{A:HProp}{vs:Value}{ts:List Tb}(h:SVr A vs ts):SV A vs ts:=
 ⟨h.vw,fun t ht=>⟨(h.tab t ht).vw,(h.tab t ht).len,(h.tab t ht).nm,(h.tab t ht).cnm⟩,h.len,h.cap⟩
set_option maxHeartbeats 4000000 in
theorem large_spec(vs:Value)(ts:List Tb)(A:HProp)(h:SVr A vs ts):
  FSpec Tryz.prog 40 [.agg #[vs]] [A] Bool (fun y=>y=false→smallS ts) (fun y=>.bool y) (fun _=>[A]):=by
 have hv:=h.vw
 have hz:=h.len
 have lm:(ts.map tbV).length=ts.length:=by simp
 refine spec_intro [] _ Tryz.func40 rfl Tryz.ntmps40 (by rfl) (fun w0 R=>?_)
 refine ok_learn (VwIn.slice (VwIn.here hv)) ?_
 rintro⟨pv,cv,rfl⟩
 repeat'(first|(refine gY ?_;intros)|(refine hY ?_ ?_<;>intro hgd)|(refine jY ?_ ?_<;>intro _)|fail)
 rename_i b1
 refine ok_loop' (γ:=Nat×Nat) (fun g ρ L=>g.1≤ts.length∧g.1≤40∧(∀ t∈ts.take g.1,t.cols.length≤g.2)∧g.2≤g.1*9007199254740992∧Knows ρ [(1,.pointer (some ⟨b1,0,none⟩)),(3,.int .i64 (g.2:Int)),(4,.int .i64 g.1)]∧L=[pts b1 (.cells [.slice pv (ts.map tbV).length cv].toArray 29),A]++R) (fun g=>ts.length-g.1) (0,0)
  ⟨by omega,by omega,fun _ h=>by simp at h,by simp,⟨rfl,rfl,rfl,trivial⟩,rfl⟩ ?_
 rintro⟨i,n⟩ ρ L ⟨hi,hi1,hall,hn,hk,rfl⟩
 dsimp only at hi hi1 hall hn hk ⊢
 refine ok_regs hk ?_
 have hend:(decide ((30:Int)<((ts.map tbV).length:Int))||decide ((600:Int)<(n:Int)))=false→(i=ts.length∨i=40)→smallS ts:=fun hb he=>by
  simp only[Bool.or_eq_false_iff,decide_eq_false_iff_not]at hb
  have hie:i=ts.length:=by omega
  rw[hie,List.take_length]at hall
  exact⟨by omega,fun t ht=>by have:=hall t ht;omega⟩
 cases t1:decide ((i:Int)<((ts.map tbV).length:Int))with
 |false=>
  have hie:i=ts.length:=by have:=of_decide_eq_false t1;omega
  cases u1:decide ((30:Int)<((ts.map tbV).length:Int))with
  |true=>
   repeat'(first|(refine gY ?_;intros)|(refine hY ?_ ?_<;>intro hgd)|(refine jY ?_ ?_<;>intro _)|fail)
   (refine rt_Y (y:=true) (hrs:=Tryz.results40) (hv:=?_) (hφ:=?_))
   ·rfl
   ·intro hb;cases hb
  |false=>
   repeat'(first|(refine gY ?_;intros)|(refine hY ?_ ?_<;>intro hgd)|(refine jY ?_ ?_<;>intro _)|fail)
   (refine rt_Y (y:=decide ((600:Int)<(n:Int))) (hrs:=Tryz.results40) (hv:=?_) (hφ:=?_))
   ·rfl
   ·exact fun hb=>hend (by rw[u1,hb];rfl) (.inl hie)
 |true=>
  have h0:i<ts.length:=by have:=of_decide_eq_true t1;omega
  cases t2:decide ((i:Int)<40)with
  |false=>
   have hie:i=40:=by have:=of_decide_eq_false t2;omega
   cases u1:decide ((30:Int)<((ts.map tbV).length:Int))with
   |true=>
    repeat'(first|(refine gY ?_;intros)|(refine hY ?_ ?_<;>intro hgd)|(refine jY ?_ ?_<;>intro _)|fail)
    (refine rt_Y (y:=true) (hrs:=Tryz.results40) (hv:=?_) (hφ:=?_))
    ·rfl
    ·intro hb;cases hb
   |false=>
    repeat'(first|(refine gY ?_;intros)|(refine hY ?_ ?_<;>intro hgd)|(refine jY ?_ ?_<;>intro _)|fail)
    (refine rt_Y (y:=decide ((600:Int)<(n:Int))) (hrs:=Tryz.results40) (hv:=?_) (hφ:=?_))
    ·rfl
    ·exact fun hb=>hend (by rw[u1,hb];rfl) (.inr hie)
  |true=>
   have h40:i<40:=by have:=of_decide_eq_true t2;omega
   have hti:ts[i]? =some ts[i]:=List.getElem?_eq_getElem h0
   have hx:(ts.map tbV)[i]? =some (tbV ts[i]):=by rw[List.getElem?_map,hti];rfl
   have hnn:i<(ts.map tbV).length:=by omega
   have htk:ts.take (i+1)=ts.take i++[ts[i]]:=List.take_succ_eq_append_getElem h0
   obtain⟨hcv,hcl,hcn,hcs⟩:=h.tab _ (List.getElem_mem h0)
   refine ok_learn (VwIn.base (VwIn.there (VwIn.here hv)) (by intro e;rw[e]at hnn;simp at hnn)) ?_
   rintro⟨bu,ou,rfl⟩
   generalize ts[i]=t at hx htk hcv hcl hcn hcs
   obtain⟨tn,cols,⟨cv',hcv'⟩,key,ref,par⟩:=t
   dsimp only[tbV]at hx hcv hcl hcn hcs
   have lc:(cols.map coV).length=cols.length:=by simp
   refine ok_learn (VwIn.slice (VwIn.there (VwIn.here hcv))) ?_
   rintro⟨pc,cc,rfl⟩
   have hq:=quo_nat tn.size 16 (by decide) hcn
   have hqb:tn.size / 16≤140737488355328:=Nat.le_trans (Nat.div_le_self _ _) hcn
   generalize tn.size / 16=q at hq hqb
   have hq':IntKind.i64.wrap ((tn.size:Int).tdiv 16)=(q:Int):=hq
   have hib:i*9007199254740992≤40*9007199254740992:=Nat.mul_le_mul_right _ hi1
   repeat'(first|(refine gY ?_;intros)|(refine hY ?_ ?_<;>intro hgd)|(refine jY ?_ ?_<;>intro _)|fail)
   refine ok_loop' (γ:=Nat×Nat) (fun g ρ L=>g.1≤cols.length∧g.1≤40∧n+cols.length+q≤g.2∧g.2≤n+cols.length+q+g.1*140737488355328∧Knows ρ [(1,.pointer (some ⟨b1,0,none⟩)),(3,.int .i64 (g.2:Int)),(4,.int .i64 i),(5,.int .i64 g.1)]∧L=[pts b1 (.cells [.slice (some ⟨bu,ou,none⟩) (ts.map tbV).length cv].toArray 29),A]++R) (fun g=>cols.length-g.1) (0,n+cols.length+q)
    ⟨by omega,by omega,by simp,by simp,⟨rfl,by show Value.int .i64 ((n:Int)+((cols.map coV).length:Int)+(q:Int))=_;rw[lc];simp,rfl,rfl,trivial⟩,rfl⟩ ?_
   rintro⟨k,z⟩ ρ L ⟨hk0,hk1,hz1,hz2,hk',rfl⟩
   dsimp only at hk0 hk1 hz1 hz2 hk' ⊢
   refine ok_regs hk' ?_
   have hkb:k*140737488355328≤40*140737488355328:=Nat.mul_le_mul_right _ hk1
   have hnext:∀ x∈ts.take (i+1),x.cols.length≤z:=fun x hx=>by
    rw[htk]at hx
    rcases List.mem_append.1 hx with hx|hx
    ·have:=hall x hx;omega
    ·rw[List.mem_singleton]at hx;subst hx;dsimp only;omega
   have hzz:z≤(i+1)*9007199254740992:=by rw[Nat.succ_mul];omega
   cases t3:decide ((k:Int)<((cols.map coV).length:Int))with
   |false=>
    repeat'(first|(refine gY ?_;intros)|(refine hY ?_ ?_<;>intro hgd)|(refine jY ?_ ?_<;>intro _)|fail)
    refine cont_back (i+1,z) ⟨h0,by dsimp only;omega,hnext,hzz,⟨rfl,rfl,rfl,trivial⟩,rfl⟩ (by show ts.length-(i+1)<ts.length-i;omega)
   |true=>
    have hkl:k<cols.length:=by have:=of_decide_eq_true t3;omega
    cases t4:decide ((k:Int)<40)with
    |false=>
     repeat'(first|(refine gY ?_;intros)|(refine hY ?_ ?_<;>intro hgd)|(refine jY ?_ ?_<;>intro _)|fail)
     refine cont_back (i+1,z) ⟨h0,by dsimp only;omega,hnext,hzz,⟨rfl,rfl,rfl,trivial⟩,rfl⟩ (by show ts.length-(i+1)<ts.length-i;omega)
    |true=>
     have hk4:k<40:=by have:=of_decide_eq_true t4;omega
     have hxc:(cols.map coV)[k]? =some (coV cols[k]):=by rw[List.getElem?_map,List.getElem?_eq_getElem hkl];rfl
     have hnk:k<(cols.map coV).length:=by omega
     have hcz:=hcs _ (List.getElem_mem hkl)
     refine ok_learn (VwIn.base (VwIn.there (VwIn.here hcv)) (by intro e;rw[e]at hnk;simp at hnk)) ?_
     rintro⟨bc,oc,rfl⟩
     generalize cols[k]=c at hxc hcz
     obtain⟨cn,ck,cb⟩:=c
     dsimp only[coV]at hxc hcz
     have hp:=quo_nat cn.size 16 (by decide) hcz
     have hpb:cn.size / 16≤140737488355328:=Nat.le_trans (Nat.div_le_self _ _) hcz
     generalize cn.size / 16=p at hp hpb
     have hp':IntKind.i64.wrap ((cn.size:Int).tdiv 16)=(p:Int):=hp
     repeat'(first|(refine gY ?_;intros)|(refine hY ?_ ?_<;>intro hgd)|(refine jY ?_ ?_<;>intro _)|fail)
     refine cont_back (k+1,z+p) ⟨hkl,by dsimp only;omega,by dsimp only;omega,by dsimp only;rw[Nat.succ_mul];omega,⟨rfl,by show Value.int .i64 ((z:Int)+(p:Int))=_;simp,rfl,rfl,trivial⟩,rfl⟩ (by show cols.length-(k+1)<cols.length-k;omega)
end Go.Proofs.YtmnafjonbeihiaaGreatDoor
/- Texts merged: L14E L14F. -/
namespace Go.Proofs.YtmnafjonbeihiaaGreatDoor
open Go Go.Fx Go.Proofs Go.Pl
structure Om where
 kind:Int
 table:Int
 rv:V1s
 row:List Vl
def opV(o:Om):List Value:=[.int .u8 o.kind,.int .i64 o.table,o.rv.1]
def Om.c(o:Om):Opr:=⟨o.kind,o.table,o.row⟩
structure OmR(A:HProp)(o:Om):Prop where
 vw:Vw A 4 o.rv.1 (o.row.map valV)
 len:o.row.length≤140737488355328
 txt:∀ v∈o.row,v.text.size≤140737488355328
structure OsR(A:HProp)(vo:Value)(ops:List Om):Prop where
 vw:Vw A 3 vo (ops.map opV)
 op:∀ o∈ops,OmR A o
 len:ops.length≤140737488355328
def smallO(ops:List Om):Prop:=ops.length≤300∧∀ o∈ops,o.row.length≤3000
set_option maxHeartbeats 4000000 in
theorem heavy14_spec(vs vo:Value)(ts:List Tb)(ops:List Om)(A:HProp)(h:SVr A vs ts)(ho:OsR A vo ops):
  FSpec Tryz.prog 7 [.agg #[vs],vo] [A] Bool (fun y=>y=false→smallS ts∧smallO ops) (fun y=>.bool y) (fun _=>[A]):=by
 have hv:=ho.vw
 have hz:=ho.len
 have lm:(ops.map opV).length=ops.length:=by simp
 refine spec_intro [] _ Tryz.func7 rfl Tryz.ntmps7 (by rfl) (fun w0 R=>?_)
 refine ok_learn (VwIn.slice (VwIn.here hv)) ?_
 rintro⟨pv,cv,rfl⟩
 repeat'(first|(refine gY ?_;intros)|(refine hY ?_ ?_<;>intro hgd)|(refine jY ?_ ?_<;>intro _)|fail)
 rename_i b1
 refine ok_loop' (γ:=Nat×Nat) (fun g ρ L=>g.1≤ops.length∧g.1≤400∧(∀ o∈ops.take g.1,o.row.length≤g.2)∧g.2≤g.1*4001∧Knows ρ [(1,.slice pv (ops.map opV).length cv),(2,.pointer (some ⟨b1,0,none⟩)),(4,.bool false),(5,.int .i64 (g.2:Int)),(6,.int .i64 g.1)]∧L=[pts b1 (.cells [vs].toArray 29),A]++R) (fun g=>ops.length-g.1) (0,0)
  ⟨by omega,by omega,fun _ h=>by simp at h,by simp,⟨rfl,rfl,rfl,rfl,rfl,trivial⟩,rfl⟩ ?_
 rintro⟨i,n⟩ ρ L ⟨hi,hi1,hall,hn,hk,rfl⟩
 dsimp only at hi hi1 hall hn hk ⊢
 refine ok_regs hk ?_
 have hend:(decide ((300:Int)<((ops.map opV).length:Int))||decide ((3000:Int)<(n:Int)))=false→(i=ops.length∨i=400)→smallO ops:=fun hb he=>by
  simp only[Bool.or_eq_false_iff,decide_eq_false_iff_not]at hb
  have hie:i=ops.length:=by omega
  rw[hie,List.take_length]at hall
  exact⟨by omega,fun t ht=>by have:=hall t ht;omega⟩
 cases t1:decide ((i:Int)<((ops.map opV).length:Int))with
 |false=>
  have hie:i=ops.length:=by have:=of_decide_eq_false t1;omega
  cases u1:decide ((300:Int)<((ops.map opV).length:Int))with
  |true=>
   repeat'(first|(refine gY ?_;intros)|(refine hY ?_ ?_<;>intro hgd)|(refine jY ?_ ?_<;>intro _)|fail)
   refine cl_Y (large_spec vs ts A h) ?_
   intro _ _
   repeat'(first|(refine gY ?_;intros)|(refine hY ?_ ?_<;>intro hgd)|(refine jY ?_ ?_<;>intro _)|fail)
   ·repeat'(first|(refine gY ?_;intros)|(refine hY ?_ ?_<;>intro hgd)|(refine jY ?_ ?_<;>intro _)|fail)
    (refine rt_Y (y:=true) (hrs:=Tryz.results7) (hv:=?_) (hφ:=?_))
    ·rfl
    ·intro hb;cases hb
   ·repeat'(first|(refine gY ?_;intros)|(refine hY ?_ ?_<;>intro hgd)|(refine jY ?_ ?_<;>intro _)|fail)
    (refine rt_Y (y:=true) (hrs:=Tryz.results7) (hv:=?_) (hφ:=?_))
    ·rfl
    ·intro hb;cases hb
  |false=>
   repeat'(first|(refine gY ?_;intros)|(refine hY ?_ ?_<;>intro hgd)|(refine jY ?_ ?_<;>intro _)|fail)
   refine cl_Y (large_spec vs ts A h) ?_
   intro _ _
   repeat'(first|(refine gY ?_;intros)|(refine hY ?_ ?_<;>intro hgd)|(refine jY ?_ ?_<;>intro _)|fail)
   ·rename_i yy hlg
    have hsm:=hlg hgd
    repeat'(first|(refine gY ?_;intros)|(refine hY ?_ ?_<;>intro hgd)|(refine jY ?_ ?_<;>intro _)|fail)
    (refine rt_Y (y:=decide ((3000:Int)<(n:Int))) (hrs:=Tryz.results7) (hv:=?_) (hφ:=?_))
    ·rfl
    ·exact fun hb=>⟨hsm,hend (by rw[u1,hb];rfl) (.inl hie)⟩
   ·repeat'(first|(refine gY ?_;intros)|(refine hY ?_ ?_<;>intro hgd)|(refine jY ?_ ?_<;>intro _)|fail)
    (refine rt_Y (y:=true) (hrs:=Tryz.results7) (hv:=?_) (hφ:=?_))
    ·rfl
    ·intro hb;cases hb
 |true=>
  have h0:i<ops.length:=by have:=of_decide_eq_true t1;omega
  cases t2:decide ((i:Int)<400)with
  |false=>
   have hie:i=400:=by have:=of_decide_eq_false t2;omega
   cases u1:decide ((300:Int)<((ops.map opV).length:Int))with
   |true=>
    repeat'(first|(refine gY ?_;intros)|(refine hY ?_ ?_<;>intro hgd)|(refine jY ?_ ?_<;>intro _)|fail)
    refine cl_Y (large_spec vs ts A h) ?_
    intro _ _
    repeat'(first|(refine gY ?_;intros)|(refine hY ?_ ?_<;>intro hgd)|(refine jY ?_ ?_<;>intro _)|fail)
    ·repeat'(first|(refine gY ?_;intros)|(refine hY ?_ ?_<;>intro hgd)|(refine jY ?_ ?_<;>intro _)|fail)
     (refine rt_Y (y:=true) (hrs:=Tryz.results7) (hv:=?_) (hφ:=?_))
     ·rfl
     ·intro hb;cases hb
    ·repeat'(first|(refine gY ?_;intros)|(refine hY ?_ ?_<;>intro hgd)|(refine jY ?_ ?_<;>intro _)|fail)
     (refine rt_Y (y:=true) (hrs:=Tryz.results7) (hv:=?_) (hφ:=?_))
     ·rfl
     ·intro hb;cases hb
   |false=>
    repeat'(first|(refine gY ?_;intros)|(refine hY ?_ ?_<;>intro hgd)|(refine jY ?_ ?_<;>intro _)|fail)
    refine cl_Y (large_spec vs ts A h) ?_
    intro _ _
    repeat'(first|(refine gY ?_;intros)|(refine hY ?_ ?_<;>intro hgd)|(refine jY ?_ ?_<;>intro _)|fail)
    ·rename_i yy hlg
     have hsm:=hlg hgd
     repeat'(first|(refine gY ?_;intros)|(refine hY ?_ ?_<;>intro hgd)|(refine jY ?_ ?_<;>intro _)|fail)
     (refine rt_Y (y:=decide ((3000:Int)<(n:Int))) (hrs:=Tryz.results7) (hv:=?_) (hφ:=?_))
     ·rfl
     ·exact fun hb=>⟨hsm,hend (by rw[u1,hb];rfl) (.inr hie)⟩
    ·repeat'(first|(refine gY ?_;intros)|(refine hY ?_ ?_<;>intro hgd)|(refine jY ?_ ?_<;>intro _)|fail)
     (refine rt_Y (y:=true) (hrs:=Tryz.results7) (hv:=?_) (hφ:=?_))
     ·rfl
     ·intro hb;cases hb
  |true=>
   have h40:i<400:=by have:=of_decide_eq_true t2;omega
   have hti:ops[i]? =some ops[i]:=List.getElem?_eq_getElem h0
   have hx:(ops.map opV)[i]? =some (opV ops[i]):=by rw[List.getElem?_map,hti];rfl
   have hnn:i<(ops.map opV).length:=by omega
   have htk:ops.take (i+1)=ops.take i++[ops[i]]:=List.take_succ_eq_append_getElem h0
   obtain⟨hcv,hcl,hct⟩:=ho.op _ (List.getElem_mem h0)
   refine ok_learn (VwIn.base (VwIn.there (VwIn.here hv)) (by intro e;rw[e]at hnn;simp at hnn)) ?_
   rintro⟨bu,ou,rfl⟩
   generalize ops[i]=o at hx htk hcv hcl hct
   obtain⟨ok,ot,⟨rv,hrv⟩,row⟩:=o
   dsimp only[opV]at hx hcv hcl hct
   have lc:(row.map valV).length=row.length:=by simp
   refine ok_learn (VwIn.slice (VwIn.there (VwIn.here hcv))) ?_
   rintro⟨pc,cc,rfl⟩
   repeat'(first|(refine gY ?_;intros)|(refine hY ?_ ?_<;>intro hgd)|(refine jY ?_ ?_<;>intro _)|fail)
   refine cl_Y (long_spec (.slice pc (row.map valV).length cc) A row hcv hcl hct) ?_
   intro _ _
   repeat'(first|(refine gY ?_;intros)|(refine hY ?_ ?_<;>intro hgd)|(refine jY ?_ ?_<;>intro _)|fail)
   ·repeat'(first|(refine gY ?_;intros)|(refine hY ?_ ?_<;>intro hgd)|(refine jY ?_ ?_<;>intro _)|fail)
    (refine rt_Y (y:=true) (hrs:=Tryz.results7) (hv:=?_) (hφ:=?_))
    ·rfl
    ·intro hb;cases hb
   ·rename_i hl0 hl1
    have hl:=hl0 hl1
    refine cont_map (L':=[pts b1 (.cells [vs].toArray 29),A]++R) entD ?_
    refine cont_back (i+1,n+1+row.length) ⟨h0,by dsimp only;omega,fun x hx=>by
     rw[htk]at hx
     rcases List.mem_append.1 hx with hx|hx
     ·have:=hall x hx;dsimp only;omega
     ·rw[List.mem_singleton]at hx;subst hx;dsimp only;omega,by dsimp only;rw[Nat.succ_mul];omega,⟨rfl,rfl,rfl,by show Value.int .i64 ((n:Int)+1+((row.map valV).length:Int))=_;rw[lc];simp,rfl,trivial⟩,rfl⟩ (by show ops.length-(i+1)<ops.length-i;omega)
end Go.Proofs.YtmnafjonbeihiaaGreatDoor
set_option pp.deepTerms true
set_option pp.maxSteps 200000
namespace Go.Proofs.YtmnafjonbeihiaaGreatDoor
open Go Go.Fx Go.Proofs Go.Pl
section
variable{X:Cx}{ops:Array Oper}{nb:NB}{N:Act→World→Prop}{i:Nat}{d:Option Nat}{op:Op}{ty:TypeId}{os:List Oper}{Ls:List HProp}{ds:List Deferred}{ρ:Regs}{L:List HProp}
end
theorem SVr.ext{P P':HProp}(e:Ext P P'){vs:Value}{ts:List Tb}(h:SVr P vs ts):SVr P' vs ts:=⟨e.vw h.vw,fun t ht=>⟨e.vw (h.tab t ht).vw,(h.tab t ht).len,(h.tab t ht).nm,(h.tab t ht).cnm⟩,h.len,h.cap⟩
abbrev GK(ts:List Tb)(P1:HProp):={x:Rl×HProp // x.1.Ok∧x.1.s=ts.map Tb.c∧Ext P1 x.2}
end Go.Proofs.YtmnafjonbeihiaaGreatDoor
