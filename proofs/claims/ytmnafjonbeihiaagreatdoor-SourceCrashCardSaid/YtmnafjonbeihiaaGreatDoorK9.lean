/- Texts merged: G12 H38. -/
import Derived.Test.YtmnafjonbeihiaaGreatDoorG10
import Derived.Test.YtmnafjonbeihiaaGreatDoorG11
import Derived.Test.YtmnafjonbeihiaaGreatDoorG7
import Derived.Test.YtmnafjonbeihiaaGreatDoorK3
import Derived.Test.YtmnafjonbeihiaaGreatDoorG8
import Derived.Test.YtmnafjonbeihiaaGreatDoorK2
/- Texts merged: SvG SvH SvI. -/
set_option linter.unusedSimpArgs false
set_option linter.unusedVariables false
set_option maxRecDepth 100000
set_option pp.deepTerms true
set_option pp.maxSteps 200000
namespace Go.Proofs.YtmnafjonbeihiaaGreatDoor
open Go Go.Fx Go.Proofs Go.Pl
theorem pool_out{A P:HProp}{L:List HProp}{h:Frag}(s:SatL (pool A P::L) h):SatL (A::P::L) h:=SatL.flat (M:=[A,P]) s
def keyAt(k:Nat)(x:Rw):Vl:=(x.2[k]?).getD default
theorem sortRw_spec(v:Value)(acc:List Rw)(kn bk:Nat)(Q:HProp)(hall:∀ x∈acc,Vw Q 4 x.1.1 (x.2.map valV)∧kn<x.2.length)(hl:acc.length≤1000000):
  FSpec Tryz.prog 117 [v,.func (.func 118) #[] #[.pointer (some ⟨bk,0,none⟩)]] [row 22 1 v (acc.map rwV),pts bk (.cells [.int .i64 (kn:Int)].toArray 3),Q] (List Rw)
   (fun l'=>l'.Perm acc∧l'.Pairwise (fun x y=>lessV (keyAt kn y) (keyAt kn x)=false)) (fun _=>.tuple #[]) (fun l'=>[row 22 1 v (l'.map rwV),pts bk (.cells [.int .i64 (kn:Int)].toArray 3),Q]):=by
 generalize hB:pts bk (.cells [Value.int .i64 (kn:Int)].toArray 3)=B
 have hin:∀ (A:HProp) (R:List HProp) (h:Frag),SatL ([A,B,Q]++R) h→SatL ([A,pool B Q]++R) h:=
  fun A R h s=>by
   have s1:SatL (A::(B::Q::R)) h:=s
   exact s1.consMono fun _ k=>pool_in k
 have hout:∀ (A:HProp) (R:List HProp) (h:Frag),SatL ([A,pool B Q]++R) h→SatL ([A,B,Q]++R) h:=
  fun A R h s=>by
   have s1:SatL (A::(pool B Q::R)) h:=s
   exact s1.consMono fun _ k=>pool_out k
 cases acc with
 |nil=>exact FSpec.conseq (sort_none (m:=false) 22 (.func (.func 118) #[] #[.pointer (some ⟨bk,0,none⟩)]) v (pool B Q)) (fun R h s=>hin _ R h s) (fun _ _=>⟨[],⟨.refl _,.nil⟩,rfl,fun R h s=>hout _ R h s⟩)
 |cons a acc=>
  generalize hA:a::acc=ac at hall hl ⊢
  have ha:a∈ac:=by rw[← hA];exact List.mem_cons_self ..
  haveI:Inhabited {x:Rw // Vw Q 4 x.1.1 (x.2.map valV)∧kn<x.2.length}:=⟨⟨a,hall a ha⟩⟩
  have hv1:((ac.pmap (fun x h=>(⟨x,h⟩:{x:Rw // Vw Q 4 x.1.1 (x.2.map valV)∧kn<x.2.length})) hall).map fun y=>y.1)=ac:=by
   rw[List.map_pmap];simp
  have hrow:∀ l:List {x:Rw // Vw Q 4 x.1.1 (x.2.map valV)∧kn<x.2.length},(l.map fun y=>[y.1.1.1])=(l.map fun y=>y.1).map rwV:=fun l=>by rw[List.map_map];rfl
  have hkey:∀ y:{x:Rw // Vw Q 4 x.1.1 (x.2.map valV)∧kn<x.2.length},y.1.2[kn]'y.2.2=keyAt kn y.1:=fun y=>by unfold keyAt;rw[List.getElem?_eq_getElem y.2.2];rfl
  have hlt:Go.Sort.SWO (Go.Proofs.ltOf fun x y:{x:Rw // Vw Q 4 x.1.1 (x.2.map valV)∧kn<x.2.length}=>if lessV (keyAt kn x.1) (keyAt kn y.1)then(-1:Int)else 1):=by
   have e:(Go.Proofs.ltOf fun x y:{x:Rw // Vw Q 4 x.1.1 (x.2.map valV)∧kn<x.2.length}=>if lessV (keyAt kn x.1) (keyAt kn y.1)then(-1:Int)else 1)=fun x y=>lessV (keyAt kn x.1) (keyAt kn y.1):=by
    funext x y
    unfold Go.Proofs.ltOf
    cases hl:lessV (keyAt kn x.1) (keyAt kn y.1)<;>simp[hl]
   rw[e];exact less_swo _
  have hs:=sort_spec (m:=false) (fun y:{x:Rw // Vw Q 4 x.1.1 (x.2.map valV)∧kn<x.2.length}=>y.1.1.1) (fun y=>y.1.1.2) (fun x y=>if lessV (keyAt kn x.1) (keyAt kn y.1)then -1 else 1) hlt 118 [.pointer (some ⟨bk,0,none⟩)]
   (
    pool B Q) 22 v (ac.pmap (fun x h=>⟨x,h⟩) hall) (by rw[List.length_pmap];exact hl) (fun x y A hE=>by
    have ho:=order_spec (m:=true) x.1.1.1 y.1.1.1 x.1.2 y.1.2 kn bk A (((Ext.pool _ _).trans hE).vw x.2.1) (((Ext.pool _ _).trans hE).vw y.2.1) (Ext.rd ((Ext.poolL _ _).trans hE) (by rw[← hB];exact Rd.pts _ _)) x.2.2 y.2.2
    rw[hkey x,hkey y]at ho
    exact ho)
  rw[hrow,hv1]at hs
  refine FSpec.conseq hs (fun R h s=>hin _ R h s) (fun l' ⟨hp,hsr⟩=>⟨l'.map (fun y=>y.1),⟨?_,?_⟩,rfl,fun R h s=>hout _ R h (by rw[← hrow];exact s)⟩)
  ·have:=hp.map (fun y=>y.1)
   rw[hv1]at this
   exact this
  ·rw[List.pairwise_map]
   refine hsr.imp fun {x y} h=>?_
   unfold Go.Proofs.ltOf at h
   cases hl':lessV (keyAt kn y.1) (keyAt kn x.1)with
   |false=>rfl
   |true=>simp[hl']at h
theorem rows_none{r:Rl}(hok:r.Ok){t:Int}{ask:List Vl→Bool}(h:t<0∨(r.s.length:Int)≤t):rowsAt r t ask=[]:=by
 cases hr:rowsAt r t ask with
 |nil=>rfl
 |cons l ls=>
  exfalso
  obtain⟨p,hm,ht⟩:=rowsAt_mem hok (t:=t) (ask:=ask) (l:=l) (by rw[hr];exact List.mem_cons_self ..)
  have hro:=(hok.rows _ hm).row
  simp only[rowS,Bool.and_eq_true]at hro
  obtain⟨h0,h1,_⟩:=hasS_tab hro.1
  omega
set_option maxHeartbeats 4000000 in
theorem some_none(b:Nat)(r:Rl)(t:Int)(fv:Value)(hfv:fv.oneCell'=true)(P:HProp)(hok:r.Ok)(h:t<0∨(r.s.length:Int)≤t):
  FSpec Tryz.prog 68 [.pointer (some ⟨b,0,none⟩),.int .i64 t,fv] [relP P b r,P] Unit (fun _=>True) (fun _=>.slice none 0 0) (fun _=>[relP P b r,P]):=by
 refine fspec_ex ?_
 rintro⟨⟨vs,ts,m,es⟩,hy⟩
 have hy':=hy
 obtain⟨hvc,hsv,hss,hes⟩:=hy
 dsimp only at hvc hsv hss hes
 unfold relL
 dsimp only
 have hv:=hsv.vw
 have htl:(ts.map tbV).length=r.s.length:=by rw[← hss];simp
 cases t1:decide (t<0)with
 |true=>
  refine spec_intro [] _ Tryz.func68 rfl Tryz.ntmps68 (by rfl) (fun w0 R=>?_)
  repeat'(first|(refine gY ?_;intros)|(refine hY ?_ ?_<;>intro hgd)|(refine jY ?_ ?_<;>intro _)|fail)
  refine cont_map (fun _ h=>rel_in (b:=b) (r:=r) hy' (Take.out takeD h)) ?_
  (refine rt_Y (y:=()) (hrs:=Tryz.results68) (hv:=?_) (hφ:=?_))
  ·rfl
  ·trivial
 |false=>
  have t2:decide (((ts.map tbV).length:Int)≤t)=true:=by have:=of_decide_eq_false t1;rw[htl];simp only[decide_eq_true_eq];omega
  refine spec_intro [] _ Tryz.func68 rfl Tryz.ntmps68 (by rfl) (fun w0 R=>?_)
  refine ok_learn (VwIn.slice (VwIn.there (VwIn.there (VwIn.here hv)))) ?_
  rintro⟨pv,cv,rfl⟩
  repeat'(first|(refine gY ?_;intros)|(refine hY ?_ ?_<;>intro hgd)|(refine jY ?_ ?_<;>intro _)|fail)
  refine cont_map (fun _ h=>rel_in (b:=b) (r:=r) hy' (Take.out takeD h)) ?_
  (refine rt_Y (y:=()) (hrs:=Tryz.results68) (hv:=?_) (hφ:=?_))
  ·rfl
  ·trivial
set_option maxHeartbeats 8000000 in
theorem some_spec(b:Nat)(r:Rl)(t:Int)(fv:Value)(hfv:fv.oneCell'=true)(ask:List Vl→Bool)(P:HProp)(hok:r.Ok)(hwf:Rl.Wf r)(hh:hasS r.s t=true)
  (hask:∀ (w:Value) (l:List Vl) (A:HProp),Vw A 4 w (l.map valV)→VSpec Tryz.prog fv [w] [A] Unit (fun _=>True) (fun _=>.bool (ask l)) (fun _=>[A])):
  FSpec Tryz.prog 68 [.pointer (some ⟨b,0,none⟩),.int .i64 t,fv] [relP P b r,P] (V1s×List Rw×HProp) (fun y=>Ext P y.2.2∧(∀ x∈y.2.1,Vw y.2.2 4 x.1.1 (x.2.map valV))∧InOrder r t ask (y.2.1.map (·.2)))
   (fun y=>y.1.1) (fun y=>[row 22 1 y.1.1 (y.2.1.map rwV),relP y.2.2 b r,y.2.2]):=by
 refine fspec_ex ?_
 rintro⟨⟨vs,ts,m,es⟩,hy⟩
 have hy':=hy
 obtain⟨hvc,hsv,hss,hes⟩:=hy
 dsimp only at hvc hsv hss hes
 unfold relL
 dsimp only
 have hv:=hsv.vw
 have hh':hasS (ts.map Tb.c) t=true:=by rw[hss];exact hh
 obtain⟨tm,⟨tn,tc,⟨tcv,htcv⟩,tk,tr,tp⟩,rfl,htt,hxt,htl,hta,htok,htmem⟩:=hasS_tb hh'
 have htok':=htok
 obtain⟨hk0,hkL,_,_⟩:=htok
 dsimp only[Tb.c]at hk0 hkL
 obtain⟨kn,rfl⟩:∃ kn:Nat,tk=(kn:Int):=⟨tk.toNat,by omega⟩
 have hko:∀ l,Pl.keyOf r.s tm l=(l[kn]?).getD default:=fun l=>by unfold Pl.keyOf;rw[← hss,hta];rfl
 have hcl:(tabAt r.s tm).cols.length=tc.length:=by rw[← hss,hta];rfl
 dsimp only[tbV]at hxt
 have hkeys:=hes.keys
 have hrl:=rowsAt_len hok (tm:Int) ask
 have g0:decide ((tm:Int)<0)=false:=by simp
 have g1:decide (((ts.map tbV).length:Int)≤(tm:Int))=false:=by simp only[decide_eq_false_iff_not];omega
 refine spec_intro [] _ Tryz.func68 rfl Tryz.ntmps68 (by rfl) (fun w0 R=>?_)
 refine ok_learn (VwIn.slice (VwIn.there (VwIn.there (VwIn.here hv)))) ?_
 rintro⟨pv,cv,rfl⟩
 refine ok_learn (VwIn.base (VwIn.there (VwIn.there (VwIn.here hv))) (by intro e;rw[e]at htl;simp at htl)) ?_
 rintro⟨bt,ot,rfl⟩
 repeat'(first|(refine gY ?_;intros)|(refine hY ?_ ?_<;>intro hgd)|(refine jY ?_ ?_<;>intro _)|fail)
 rename_i bk it
 refine ok_map (fun _ h=>nilRow (e:=22) (n:=1) h) ?_
 refine ok_map (L':=[rangeK KPlace it m es es none,row 22 1 (.slice none 0 0) [],pts b (.cells [.slice (some ⟨bt,ot,none⟩) (ts.map tbV).length cv,.map (some m),.int .u64 r.turns].toArray 129),P,pts bk (.cells [.int .i64 (kn:Int)].toArray 3)]++R) entD ?_
 refine ok_loop' (γ:=List (Pc×Value)×V1s×List Rw×HProp) (fun y ρ L=>∃ (cur:Option (Pc×Value)),(∀ x∈y.1,x∈es)∧Ext P y.2.2.2∧(∀ x∈y.2.2.1,Vw y.2.2.2 4 x.1.1 (x.2.map valV))∧(y.2.2.1.map (·.2)++pickK r tm ask (y.1.map (·.1))).Perm (rowsAt r tm ask)∧
   Knows ρ [(0,.pointer (some ⟨b,0,none⟩)),(1,.int .i64 tm),(2,fv),(6,y.2.1.1),(7,.pointer (some ⟨bk,0,none⟩)),(39,.pointer (some ⟨it,0,none⟩))]∧
   L=[rangeK KPlace it m es y.1 cur,row 22 1 y.2.1.1 (y.2.2.1.map rwV),pts b (.cells [.slice (some ⟨bt,ot,none⟩) (ts.map tbV).length cv,.map (some m),.int .u64 r.turns].toArray 129),y.2.2.2,pts bk (.cells [.int .i64 (kn:Int)].toArray 3)]++R) (fun y=>y.1.length)
  (es,⟨.slice none 0 0,rfl⟩,[],P) ⟨none,fun _ h=>h,Ext.refl P,fun _ h=>by simp at h,by unfold rowsAt;rw[hkeys];exact .refl _,⟨rfl,rfl,rfl,rfl,rfl,rfl,trivial⟩,rfl⟩ ?_
 rintro⟨rem,⟨vl,hvl⟩,acc,Q⟩ ρ L ⟨cur,hsub,hext,hacc,hperm,hk,rfl⟩
 dsimp only at hsub hext hacc hperm hk ⊢
 refine ok_regs hk ?_
 have hal:acc.length≤200:=by have:=hperm.length_eq;rw[List.length_append,List.length_map]at this;omega
 have ham:(acc.map rwV).length=acc.length:=by simp
 repeat'(first|(refine gY ?_;intros)|(refine hY ?_ ?_<;>intro hgd)|(refine jY ?_ ?_<;>intro _)|fail)
 refine nx_Y ?_ ?_
 ·intro hrem
  subst hrem
  have hp0:(acc.map (·.2)).Perm (rowsAt r tm ask):=by
   have:pickK r tm ask ([].map (fun x:Pc×Value=>x.1))=[]:=rfl
   rw[this,List.append_nil]at hperm
   exact hperm
  have hin:∀ l∈rowsAt r tm ask,l.length=tc.length∧checkV (Pl.keyOf r.s tm l)=true∧(Pl.keyOf r.s tm l).wf:=fun l hl=>by
   obtain⟨p,hm,ht⟩:=rowsAt_mem hok hl
   have hro:=hok.rows _ hm
   have hx:=rowS_key hro.row
   have hlen:=hx.2.2
   have hke:=hx.1
   have hmem:=hx.2.1
   dsimp only at hlen hke hmem
   rw[ht]at hlen hke hmem
   refine⟨by rw[hlen,hcl],?_,hwf _ hm _ (List.mem_of_getElem? hmem)⟩
   simp only[keyS,fitsC,Bool.and_eq_true]at hke
   exact hke.2.1
  have hall:∀ x∈acc,Vw Q 4 x.1.1 (x.2.map valV)∧kn<x.2.length:=fun x hx=>⟨hacc x hx,by
   have:=(hin x.2 (hp0.subset (List.mem_map_of_mem hx))).1
   have:(kn:Int)<tc.length:=hkL
   omega⟩
  have hso:=sortRw_spec vl acc kn bk Q hall (by omega)
  repeat'(first|(refine gY ?_;intros)|(refine hY ?_ ?_<;>intro hgd)|(refine jY ?_ ?_<;>intro _)|fail)
  refine cl_Y (hso) ?_
  rintro l' ⟨hpl,hsl⟩
  repeat'(first|(refine gY ?_;intros)|(refine hY ?_ ?_<;>intro hgd)|(refine jY ?_ ?_<;>intro _)|fail)
  refine cont_map (fun _ h=>(Take.out1 (A:=rangeK KPlace it m es [] cur) takeD h).headMono fun _ h=>rangeK.map h) ?_
  refine cont_map (fun _ h=>rel_in (b:=b) (r:=r) (P:=Q) (RlOK.ext hext hy') (Take.out takeD h)) ?_
  have hpp:=(hpl.map (·.2)).trans hp0
  have hord:InOrder r tm ask (l'.map (·.2)):=by
   refine⟨hpp,?_⟩
   have hd:=(rowsAt_keys hok (tm:Int) ask)
   have hd':(l'.map (·.2)).Pairwise fun x y=>Pl.keyOf r.s tm x≠Pl.keyOf r.s tm y:=(hpp.pairwise_iff (fun {x y} h e=>h e.symm)).2 hd
   rw[List.pairwise_map]at hd' ⊢
   refine(hd'.and hsl).imp_of_mem ?_
   intro x y hx hy ⟨h1,h2⟩
   obtain⟨_,cx,wx⟩:=hin x.2 (hpp.subset (List.mem_map_of_mem hx))
   obtain⟨_,cy,wy⟩:=hin y.2 (hpp.subset (List.mem_map_of_mem hy))
   refine less_parts cx cy wx wy h1 ?_
   rw[hko,hko];exact h2
  (refine rt_Y (y:=(⟨vl,hvl⟩,l',Q)) (hrs:=Tryz.results68) (hv:=?_) (hφ:=?_))
  ·rfl
  ·exact⟨hext,fun x hx=>hacc x (hpl.subset hx),hord⟩
 ·intro x pre post hrem
  subst hrem
  have hxm:x∈es:=hsub x (by simp)
  have hsub2:∀ y∈pre++post,y∈es:=fun y hy=>hsub y (by rcases List.mem_append.1 hy with h|h<;>simp[h])
  obtain⟨p,v⟩:=x
  obtain⟨l,hlm,hvl0⟩:=hes.mem hxm
  have hvlq:=hext.vw hvl0
  have hag:=aget_of_mem hok hlm
  have hll:=row_len hok hag
  have hpm:(acc.map (·.2)++(pickK r tm ask [p]++pickK r tm ask ((pre++post).map (·.1)))).Perm (rowsAt r tm ask):=by
   have h1:=pickK_mid r tm ask (pre.map (·.1)) (post.map (·.1)) p
   rw[← List.map_append]at h1
   refine(List.Perm.append_left _ h1.symm).trans ?_
   simpa using hperm
  have hpk:pickK r tm ask [p]=if p.1=(tm:Int)∧ask l=true then [l]else []:=by
   unfold pickK
   simp only[List.filterMap_cons,List.filterMap_nil,hag,Option.getD_some]
   by_cases hc:p.1=(tm:Int)∧ask l=true
   ·rw[if_pos hc,if_pos hc]
   ·rw[if_neg hc,if_neg hc]
  have hsk:=hask v l Q hvlq
  clear hperm hsub
  cases t3:decide (p.1=(tm:Int))with
  |false=>
   rw[hpk,if_neg (fun h=>of_decide_eq_false t3 h.1),List.nil_append]at hpm
   repeat'(first|(refine gY ?_;intros)|(refine hY ?_ ?_<;>intro hgd)|(refine jY ?_ ?_<;>intro _)|fail)
   refine cont_map (L':=[rangeK KPlace it m es (pre++post) (some (p,v)),row 22 1 vl (acc.map rwV),pts b (.cells [.slice (some ⟨bt,ot,none⟩) (ts.map tbV).length cv,.map (some m),.int .u64 r.turns].toArray 129),Q,pts bk (.cells [.int .i64 (kn:Int)].toArray 3)]++R) entD ?_
   refine cont_back (pre++post,⟨vl,hvl⟩,acc,Q) ⟨_,hsub2,hext,hacc,hpm,⟨rfl,rfl,rfl,rfl,rfl,rfl,trivial⟩,rfl⟩ (by simp)
  |true=>
   cases t4:ask l with
   |false=>
    rw[hpk,if_neg (fun h=>by rw[t4]at h;cases h.2),List.nil_append]at hpm
    rw[t4]at hsk
    repeat'(first|(refine gY ?_;intros)|(refine hY ?_ ?_<;>intro hgd)|(refine jY ?_ ?_<;>intro _)|fail)
    refine clV_Y (hsk) ?_
    intro _ _
    repeat'(first|(refine gY ?_;intros)|(refine hY ?_ ?_<;>intro hgd)|(refine jY ?_ ?_<;>intro _)|fail)
    refine cont_map (L':=[rangeK KPlace it m es (pre++post) (some (p,v)),row 22 1 vl (acc.map rwV),pts b (.cells [.slice (some ⟨bt,ot,none⟩) (ts.map tbV).length cv,.map (some m),.int .u64 r.turns].toArray 129),Q,pts bk (.cells [.int .i64 (kn:Int)].toArray 3)]++R) entD ?_
    refine cont_back (pre++post,⟨vl,hvl⟩,acc,Q) ⟨_,hsub2,hext,hacc,hpm,⟨rfl,rfl,rfl,rfl,rfl,rfl,trivial⟩,rfl⟩ (by simp)
   |true=>
    rw[hpk,if_pos ⟨of_decide_eq_true t3,t4⟩]at hpm
    rw[t4]at hsk
    have hclo:=cloneV_spec v Q l hvlq (by omega)
    repeat'(first|(refine gY ?_;intros)|(refine hY ?_ ?_<;>intro hgd)|(refine jY ?_ ?_<;>intro _)|fail)
    refine clV_Y (hsk) ?_
    intro _ _
    repeat'(first|(refine gY ?_;intros)|(refine hY ?_ ?_<;>intro hgd)|(refine jY ?_ ?_<;>intro _)|fail)
    refine cl_Y (hclo) ?_
    rintro⟨vn,hvn⟩ _
    refine ops_learn (row_shape' (e:=93) (n:=4) (v:=vn) (xs:=l.map valV) (by decide) takeD) ?_
    rintro⟨pvn,cvn,rfl,_⟩
    repeat'(first|(refine gY ?_;intros)|(refine hY ?_ ?_<;>intro hgd)|(refine jY ?_ ?_<;>intro _)|fail)
    rename_i v1 hv1 v2 hv2
    have e1:=Ext.pool (row 93 4 (.slice pvn (l.map valV).length cvn) (l.map valV)) Q
    have w1:Vw (pool (row 93 4 (.slice pvn (l.map valV).length cvn) (l.map valV)) Q) 4 (.slice pvn (l.map valV).length cvn) (l.map valV):=pool_row
    refine cont_map (fun _ h=>pool_in (A:=row 93 4 (.slice pvn (l.map valV).length cvn) (l.map valV)) (P:=Q) (Take.out2 takeD h)) ?_
    generalize pool (row 93 4 (.slice pvn (l.map valV).length cvn) (l.map valV)) Q=Q1 at e1 w1
    have hm:(acc++[((⟨.slice pvn (l.map valV).length cvn,hvn⟩,l):Rw)]).map rwV=acc.map rwV++[[.slice pvn (l.map valV).length cvn]]:=by rw[List.map_append];rfl
    refine cont_map (L':=[rangeK KPlace it m es (pre++post) (some (p,v)),row 22 1 v2 (acc.map rwV++[[.slice pvn (l.map valV).length cvn]]),pts b (.cells [.slice (some ⟨bt,ot,none⟩) (ts.map tbV).length cv,.map (some m),.int .u64 r.turns].toArray 129),Q1,pts bk (.cells [.int .i64 (kn:Int)].toArray 3)]++R) entD ?_
    rw[← hm]
    refine cont_back (pre++post,⟨v2,hv2⟩,acc++[(⟨.slice pvn (l.map valV).length cvn,hvn⟩,l)],Q1) ⟨_,hsub2,hext.trans e1,fun x hx=>?_,by simpa [List.append_assoc]using hpm,⟨rfl,rfl,rfl,rfl,rfl,rfl,trivial⟩,rfl⟩ (by simp)
    rcases List.mem_append.1 hx with hx|hx
    ·exact e1.vw (hacc x hx)
    ·rw[List.mem_singleton]at hx;subst hx;exact w1
set_option maxHeartbeats 1000000 in
theorem same04Q_spec(a c:List Vl)(u w:Value)(A:HProp)(hA:Vw A 4 u (a.map valV))(hB:Vw A 4 w (c.map valV))(hz:a.length≤1000000):
  FSpec Tryz.prog 67 [u,w] [A] Unit (fun _=>True) (fun _=>.bool (decide (a=c))) (fun _=>[A]):=by
 have la:(a.map valV).length=a.length:=by simp
 have lc:(c.map valV).length=c.length:=by simp
 refine spec_intro [] _ Tryz.func67 rfl Tryz.ntmps67 (by rfl) (fun w0 R=>?_)
 refine ok_learn (VwIn.slice (VwIn.here hA)) ?_
 rintro⟨pu,cu,rfl⟩
 refine ok_learn (VwIn.slice (VwIn.here hB)) ?_
 rintro⟨pw,cw,rfl⟩
 cases t0:(!decide (((a.map valV).length:Int)=((c.map valV).length:Int)))with
 |true=>
  have hne:decide (a=c)=false:=by simp;intro e;subst e;simp at t0
  rw[hne]
  repeat'(first|(refine gY ?_;intros)|(refine hY ?_ ?_<;>intro hgd)|(refine jY ?_ ?_<;>intro _)|fail)
  (refine rt_Y (y:=()) (hrs:=Tryz.results67) (hv:=?_) (hφ:=?_))
  ·rfl
  ·trivial
 |false=>
  have hlen:a.length=c.length:=by simp at t0;omega
  repeat'(first|(refine gY ?_;intros)|(refine hY ?_ ?_<;>intro hgd)|(refine jY ?_ ?_<;>intro _)|fail)
  refine ok_loop' (γ:=Nat) (fun i ρ L=>i≤a.length∧a.take i=c.take i∧Knows ρ [(0,.slice pu (a.map valV).length cu),(1,.slice pw (c.map valV).length cw),(5,.int .i64 i)]∧L=[A]++R) (fun i=>a.length-i) 0 ⟨by omega,by simp,⟨rfl,rfl,rfl,trivial⟩,rfl⟩ ?_
  rintro i ρ L ⟨hi,he,hk,rfl⟩
  refine ok_regs hk ?_
  cases t1:decide ((i:Int)<((a.map valV).length:Int))with
  |false=>
   have hie:i=a.length:=by have:=of_decide_eq_false t1;omega
   have hac:decide (a=c)=true:=by
    rw[hie,List.take_length]at he
    rw[hlen,List.take_length]at he
    simp[he]
   rw[hac]
   repeat'(first|(refine gY ?_;intros)|(refine hY ?_ ?_<;>intro hgd)|(refine jY ?_ ?_<;>intro _)|fail)
   (refine rt_Y (y:=()) (hrs:=Tryz.results67) (hv:=?_) (hφ:=?_))
   ·rfl
   ·trivial
  |true=>
   have h:i<a.length:=by have:=of_decide_eq_true t1;omega
   have hc':i<c.length:=by omega
   have hx:(a.map valV)[i]? =some (valV a[i]):=by rw[List.getElem?_map,List.getElem?_eq_getElem h];rfl
   have hy:(c.map valV)[i]? =some (valV c[i]):=by rw[List.getElem?_map,List.getElem?_eq_getElem hc'];rfl
   have hn1:i<(a.map valV).length:=by omega
   have hn2:i<(c.map valV).length:=by omega
   have t1a:a.take (i+1)=a.take i++[a[i]]:=List.take_succ_eq_append_getElem h
   have t1c:c.take (i+1)=c.take i++[c[i]]:=List.take_succ_eq_append_getElem hc'
   have hq:=eqL_valV a[i] c[i]
   have hdiff:a[i]≠c[i]→decide (a=c)=false:=fun hn=>by
    simp only[decide_eq_false_iff_not]
    intro e;subst e;exact hn rfl
   refine ok_learn (VwIn.base (VwIn.here hA) (by intro e;rw[e]at hn1;simp at hn1)) ?_
   rintro⟨bu,ou,rfl⟩
   refine ok_learn (VwIn.base (VwIn.here hB) (by intro e;rw[e]at hn2;simp at hn2)) ?_
   rintro⟨bw,ow,rfl⟩
   generalize a[i]=x at hx hq hdiff t1a
   generalize c[i]=y at hy hq hdiff t1c
   obtain⟨xk,xi,xr,xs⟩:=x
   obtain⟨yk,yi,yr,ys⟩:=y
   dsimp only[valV]at hx hy hq
   cases hn:nilB BinOp.neq (eqL [TypeDesc.int .u8,TypeDesc.int .i64,TypeDesc.int .u64,TypeDesc.string] [Value.int .u8 xk,Value.int .i64 xi,Value.int .u64 xr,Value.string xs] [Value.int .u8 yk,Value.int .i64 yi,Value.int .u64 yr,Value.string ys])with
   |true=>
    have hd:(⟨xk,xi,xr,xs⟩:Vl)≠⟨yk,yi,yr,ys⟩:=by
     rw[hq]at hn
     have:decide ((⟨xk,xi,xr,xs⟩:Vl)=⟨yk,yi,yr,ys⟩)=false:=by simpa only[nilB,Bool.not_eq_true']using hn
     exact of_decide_eq_false this
    rw[hdiff hd]
    repeat'(first|(refine gY ?_;intros)|(refine hY ?_ ?_<;>intro hgd)|(refine jY ?_ ?_<;>intro _)|fail)
    (refine rt_Y (y:=()) (hrs:=Tryz.results67) (hv:=?_) (hφ:=?_))
    ·rfl
    ·trivial
   |false=>
    have hd:(⟨xk,xi,xr,xs⟩:Vl)=⟨yk,yi,yr,ys⟩:=by
     rw[hq]at hn
     have:decide ((⟨xk,xi,xr,xs⟩:Vl)=⟨yk,yi,yr,ys⟩)=true:=by simpa only[nilB,Bool.not_eq_false']using hn
     exact of_decide_eq_true this
    repeat'(first|(refine gY ?_;intros)|(refine hY ?_ ?_<;>intro hgd)|(refine jY ?_ ?_<;>intro _)|fail)
    refine cont_map (L':=[A]++R) entD ?_
    refine cont_back (i+1) ⟨h,by rw[t1a,t1c,he,hd],⟨rfl,rfl,rfl,trivial⟩,rfl⟩ (by omega)
set_option maxHeartbeats 1000000 in
theorem same14_spec(a c:List Rw)(u w:Value)(A B Q:HProp)(hA:Vw A 1 u (a.map rwV))(hB:Vw B 1 w (c.map rwV))(qa:∀ x∈a,Vw Q 4 x.1.1 (x.2.map valV))(qc:∀ x∈c,Vw Q 4 x.1.1 (x.2.map valV))(hz:a.length≤1000000)(hza:∀ x∈a,x.2.length≤1000000):
  FSpec Tryz.prog 27 [u,w] [A,B,Q] Unit (fun _=>True) (fun _=>.bool (decide (a.map (·.2)=c.map (·.2)))) (fun _=>[A,B,Q]):=by
 have la:(a.map rwV).length=a.length:=by simp
 have lc:(c.map rwV).length=c.length:=by simp
 refine spec_intro [] _ Tryz.func27 rfl Tryz.ntmps27 (by rfl) (fun w0 R=>?_)
 refine ok_learn (VwIn.slice (VwIn.here hA)) ?_
 rintro⟨pu,cu,rfl⟩
 refine ok_learn (VwIn.slice (VwIn.there (VwIn.here hB))) ?_
 rintro⟨pw,cw,rfl⟩
 cases t0:(!decide (((a.map rwV).length:Int)=((c.map rwV).length:Int)))with
 |true=>
  have hne:decide (a.map (·.2)=c.map (·.2))=false:=by
   simp only[decide_eq_false_iff_not]
   intro e
   have:=congrArg List.length e
   simp only[List.length_map]at this
   simp[this]at t0
  rw[hne]
  repeat'(first|(refine gY ?_;intros)|(refine hY ?_ ?_<;>intro hgd)|(refine jY ?_ ?_<;>intro _)|fail)
  (refine rt_Y (y:=()) (hrs:=Tryz.results27) (hv:=?_) (hφ:=?_))
  ·rfl
  ·trivial
 |false=>
  have hlen:a.length=c.length:=by simp at t0;omega
  repeat'(first|(refine gY ?_;intros)|(refine hY ?_ ?_<;>intro hgd)|(refine jY ?_ ?_<;>intro _)|fail)
  refine ok_loop' (γ:=Nat) (fun i ρ L=>i≤a.length∧(a.map (·.2)).take i=(c.map (·.2)).take i∧Knows ρ [(0,.slice pu (a.map rwV).length cu),(1,.slice pw (c.map rwV).length cw),(5,.int .i64 i)]∧L=[A,B,Q]++R) (fun i=>a.length-i) 0 ⟨by omega,by simp,⟨rfl,rfl,rfl,trivial⟩,rfl⟩ ?_
  rintro i ρ L ⟨hi,he,hk,rfl⟩
  refine ok_regs hk ?_
  cases t1:decide ((i:Int)<((a.map rwV).length:Int))with
  |false=>
   have hie:i=a.length:=by have:=of_decide_eq_false t1;omega
   have hac:decide (a.map (·.2)=c.map (·.2))=true:=by
    rw[List.take_of_length_le (by simp;omega),List.take_of_length_le (by simp;omega)]at he
    exact decide_eq_true he
   rw[hac]
   repeat'(first|(refine gY ?_;intros)|(refine hY ?_ ?_<;>intro hgd)|(refine jY ?_ ?_<;>intro _)|fail)
   (refine rt_Y (y:=()) (hrs:=Tryz.results27) (hv:=?_) (hφ:=?_))
   ·rfl
   ·trivial
  |true=>
   have h:i<a.length:=by have:=of_decide_eq_true t1;omega
   have hc':i<c.length:=by omega
   have hx:(a.map rwV)[i]? =some (rwV a[i]):=by rw[List.getElem?_map,List.getElem?_eq_getElem h];rfl
   have hy:(c.map rwV)[i]? =some (rwV c[i]):=by rw[List.getElem?_map,List.getElem?_eq_getElem hc'];rfl
   have hn1:i<(a.map rwV).length:=by omega
   have hn2:i<(c.map rwV).length:=by omega
   have t1a:(a.map (·.2)).take (i+1)=(a.map (·.2)).take i++[a[i].2]:=by rw[List.take_succ_eq_append_getElem (by simpa using h)];simp
   have t1c:(c.map (·.2)).take (i+1)=(c.map (·.2)).take i++[c[i].2]:=by rw[List.take_succ_eq_append_getElem (by simpa using hc')];simp
   have hdiff:a[i].2≠c[i].2→decide (a.map (·.2)=c.map (·.2))=false:=fun hn=>by
    simp only[decide_eq_false_iff_not]
    intro e
    apply hn
    have e2:=congrArg (fun l=>l[i]?) e
    simp only[List.getElem?_map,List.getElem?_eq_getElem h,List.getElem?_eq_getElem hc',Option.map_some,Option.some.injEq]at e2
    exact e2
   have hs:=same04Q_spec a[i].2 c[i].2 a[i].1.1 c[i].1.1 Q (qa _ (List.getElem_mem h)) (qc _ (List.getElem_mem hc')) (hza _ (List.getElem_mem h))
   refine ok_learn (VwIn.base (VwIn.here hA) (by intro e;rw[e]at hn1;simp at hn1)) ?_
   rintro⟨bu,ou,rfl⟩
   refine ok_learn (VwIn.base (VwIn.there (VwIn.here hB)) (by intro e;rw[e]at hn2;simp at hn2)) ?_
   rintro⟨bw,ow,rfl⟩
   generalize a[i]=x at hx hdiff t1a hs
   generalize c[i]=y at hy hdiff t1c hs
   obtain⟨⟨xv,hxv⟩,xl⟩:=x
   obtain⟨⟨yv,hyv⟩,yl⟩:=y
   dsimp only[rwV]at hx hy hdiff t1a t1c hs
   cases t2:decide (xl=yl)with
   |true=>
    rw[t2]at hs
    repeat'(first|(refine gY ?_;intros)|(refine hY ?_ ?_<;>intro hgd)|(refine jY ?_ ?_<;>intro _)|fail)
    refine cl_Y (hs) ?_
    intro _ _
    repeat'(first|(refine gY ?_;intros)|(refine hY ?_ ?_<;>intro hgd)|(refine jY ?_ ?_<;>intro _)|fail)
    refine cont_map (L':=[A,B,Q]++R) entD ?_
    refine cont_back (i+1) ⟨h,by rw[t1a,t1c,he,of_decide_eq_true t2],⟨rfl,rfl,rfl,trivial⟩,rfl⟩ (by omega)
   |false=>
    rw[t2]at hs
    rw[hdiff (of_decide_eq_false t2)]
    repeat'(first|(refine gY ?_;intros)|(refine hY ?_ ?_<;>intro hgd)|(refine jY ?_ ?_<;>intro _)|fail)
    refine cl_Y (hs) ?_
    intro _ _
    repeat'(first|(refine gY ?_;intros)|(refine hY ?_ ?_<;>intro hgd)|(refine jY ?_ ?_<;>intro _)|fail)
    (refine rt_Y (y:=()) (hrs:=Tryz.results27) (hv:=?_) (hφ:=?_))
    ·rfl
    ·trivial
theorem rows1_spec(w:Value)(l:List Vl)(A:HProp)(hA:Vw A 4 w (l.map valV)):FSpec Tryz.prog 69 [w] [A] Unit (fun _=>True) (fun _=>.bool true) (fun _=>[A]):=by
 refine spec_intro [] _ Tryz.func69 rfl Tryz.ntmps69 (by rfl) (fun w0 R=>?_)
 repeat'(first|(refine gY ?_;intros)|(refine hY ?_ ?_<;>intro hgd)|(refine jY ?_ ?_<;>intro _)|fail)
 (refine rt_Y (y:=()) (hrs:=Tryz.results69) (hv:=?_) (hφ:=?_))
 ·rfl
 ·trivial
theorem relRows_spec(b:Nat)(r:Rl)(t:Int)(P:HProp)(hok:r.Ok)(hwf:Rl.Wf r):
  FSpec Tryz.prog 28 [.pointer (some ⟨b,0,none⟩),.int .i64 t] [relP P b r,P] (V1s×List Rw×HProp) (fun y=>Ext P y.2.2∧(∀ x∈y.2.1,Vw y.2.2 4 x.1.1 (x.2.map valV))∧InOrder r t (fun _=>true) (y.2.1.map (·.2)))
   (fun y=>y.1.1) (fun y=>[row 22 1 y.1.1 (y.2.1.map rwV),relP y.2.2 b r,y.2.2]):=by
 by_cases hh:hasS r.s t=true
 ·have hs:=some_spec b r t (.func (.func 69) #[] #[]) rfl (fun _=>true) P hok hwf hh (fun w l A hA=>vspec_fn (rows1_spec w l A hA))
  refine spec_intro [] _ Tryz.func28 rfl Tryz.ntmps28 (by rfl) (fun w0 R=>?_)
  repeat'(first|(refine gY ?_;intros)|(refine hY ?_ ?_<;>intro hgd)|(refine jY ?_ ?_<;>intro _)|fail)
  refine cl_Y (hs) ?_
  rintro⟨⟨v,hv⟩,l,Q⟩ ⟨h1,h2,h3⟩
  dsimp only at h1 h2 h3 ⊢
  repeat'(first|(refine gY ?_;intros)|(refine hY ?_ ?_<;>intro hgd)|(refine jY ?_ ?_<;>intro _)|fail)
  (refine rt_Y (y:=(⟨v,hv⟩,l,Q)) (hrs:=Tryz.results28) (hv:=?_) (hφ:=?_))
  ·rfl
  ·exact⟨h1,h2,h3⟩
 ·have ht:t<0∨(r.s.length:Int)≤t:=by
   simp only[hasS,hok.sch,Bool.true_and,Bool.and_eq_true,decide_eq_true_eq]at hh
   omega
  have hs:=some_none b r t (.func (.func 69) #[] #[]) rfl P hok ht
  have hr:=rows_none hok (ask:=fun _=>true) ht
  refine spec_intro [] _ Tryz.func28 rfl Tryz.ntmps28 (by rfl) (fun w0 R=>?_)
  repeat'(first|(refine gY ?_;intros)|(refine hY ?_ ?_<;>intro hgd)|(refine jY ?_ ?_<;>intro _)|fail)
  refine cl_Y (hs) ?_
  intro _ _
  repeat'(first|(refine gY ?_;intros)|(refine hY ?_ ?_<;>intro hgd)|(refine jY ?_ ?_<;>intro _)|fail)
  refine cont_map (fun _ h=>nilRow (e:=22) (n:=1) h) ?_
  (refine rt_Y (y:=(⟨.slice none 0 0,rfl⟩,[],P)) (hrs:=Tryz.results28) (hv:=?_) (hφ:=?_))
  ·rfl
  ·exact⟨Ext.refl P,fun _ h=>by simp at h,⟨by rw[hr];exact .refl _,.nil⟩⟩
abbrev Lm:=V1s×List Om
def lmV(x:Lm):List Value:=[x.1.1]
def blV(x:Bool):List Value:=[.bool x]
theorem doOp_wf{r:Rl}(h:Rl.Wf r){o:Opr}(hw:∀ v∈o.row,v.wf):Rl.Wf (r.doOp o).1:=by
 rcases doOp_did r o with⟨_,e,_⟩|⟨_,p,d⟩
 ·rw[e];exact h
 ·intro x hx
  rcases d.kind with⟨_,_,e,_⟩|⟨_,_,e,_⟩|⟨_,_,e,_⟩
  ·rw[e]at hx
   rcases aput_mem _ _ _ x hx with rfl|hx
   ·exact hw
   ·exact h x hx
  ·rw[e]at hx
   rcases aput_mem _ _ _ x hx with rfl|hx
   ·exact hw
   ·exact h x hx
  ·rw[e]at hx
   exact h x (adel_sub _ _ x hx)
theorem new_wf{s:Sc}:Rl.Wf ⟨s,[],0⟩:=fun x hx=>by simp at hx
abbrev GW(ts:List Tb)(P1:HProp):={x:Rl×HProp // x.1.Ok∧Rl.Wf x.1∧x.1.s=ts.map Tb.c∧x.1.whole=true∧Ext P1 x.2}
abbrev GX(r:Rl)(P1:HProp):={g:Tx×HProp // g.1.Ok∧g.1.over=false∧g.1.t0=r.turns∧g.1.own=r.play g.1.redo∧Rl.Wf g.1.own∧Ext P1 g.2}
abbrev GE(P1:HProp):={Q:HProp // Ext P1 Q}
def ofF(b bx bt bk:Nat)(t:Int)(k:Vl):List HProp:=[pts bx (.cells [.pointer (some ⟨b,0,none⟩)].toArray 37),pts bt (.cells [.int .i64 t].toArray 3),pts bk (.cells (valV k).toArray 93)]
theorem relSchema_spec(b:Nat)(r:Rl)(P:HProp)(hok:r.Ok):
  FSpec Tryz.prog 55 [.pointer (some ⟨b,0,none⟩)] [relP P b r,P] (V1s×List Tb×HProp) (fun y=>SV y.2.2 y.1.1 y.2.1∧y.2.1.map Tb.c=r.s∧Ext P y.2.2) (fun y=>.agg #[y.1.1]) (fun y=>[relP y.2.2 b r,y.2.2]):=by
 refine fspec_ex ?_
 rintro⟨⟨vs,ts,m,es⟩,hy⟩
 have hy':=hy
 obtain⟨hvc,hsv,hss,hes⟩:=hy
 dsimp only at hvc hsv hss hes
 unfold relL
 dsimp only
 have hvw:=hsv.vw
 obtain⟨ds,_,hah,h1,h12⟩:=checkS_ok hok.sch
 have hcl:=relClone_spec vs ts P hsv (by rw[← hss,List.length_map]at h1;exact h1) (by rw[← hss,List.length_map]at h12;omega) (fun t ht=>by have:=(hah.tab t (by rw[← hss];exact ht)).len;omega)
 refine spec_intro [] _ Tryz.func55 rfl Tryz.ntmps55 (by rfl) (fun w0 R=>?_)
 refine ok_learn (VwIn.slice (VwIn.there (VwIn.there (VwIn.here hvw)))) ?_
 rintro⟨pv,cv,rfl⟩
 repeat'(first|(refine gY ?_;intros)|(refine hY ?_ ?_<;>intro hgd)|(refine jY ?_ ?_<;>intro _)|fail)
 refine cl_Y (hcl) ?_
 rintro⟨⟨v,hv⟩,ts',P1⟩ ⟨hsv',hmap',hE⟩
 dsimp only at hsv' hmap' hE ⊢
 refine ops_learn (VwIn.slice (n:=5) (v:=v) (xs:=ts'.map tbV) (VwIn.here hsv'.vw)) ?_
 rintro⟨pv',cv',rfl⟩
 repeat'(first|(refine gY ?_;intros)|(refine hY ?_ ?_<;>intro hgd)|(refine jY ?_ ?_<;>intro _)|fail)
 refine cont_map (fun _ h=>rel_in (b:=b) (r:=r) (P:=P1) (RlOK.ext hE hy') (Take.out takeD h)) ?_
 (refine rt_Y (y:=(⟨.slice pv' (ts'.map tbV).length cv',rfl⟩,ts',P1)) (hrs:=Tryz.results55) (hv:=?_) (hφ:=?_))
 ·rfl
 ·exact⟨hsv',hmap'.trans hss,hE⟩
end Go.Proofs.YtmnafjonbeihiaaGreatDoor
