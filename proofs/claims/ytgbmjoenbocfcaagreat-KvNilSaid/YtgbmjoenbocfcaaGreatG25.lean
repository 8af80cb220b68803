/- Texts merged: KxA KxB KxC KxD. -/
import Derived.Test.YtgbmjoenbocfcaaGreatG24
import Derived.Test.YtgbmjoenbocfcaaGreatG21
import Derived.Test.YtgbmjoenbocfcaaGreatG20
import Derived.Test.YtgbmjoenbocfcaaGreatG12
set_option linter.unusedSimpArgs false
set_option linter.unusedVariables false
set_option maxRecDepth 100000
namespace Go.Proofs.YtgbmjoenbocfcaaGreat
open Go Go.Fx Go.Proofs Go.Pl
def mrgT(S:Nat→List Pr)(n:Nat)(fr to:BA)(most:Int):List Pr:=((putAllB (rsL (fun j=>(S j).filter (withB fr to)) n) []).filter (fun p=> !p.g)).take most.toNat
theorem cus_nil{L:List HProp}{h:Frag}(s:SatL L h):SatL (cusP []::L) h:=satL_emp (A:=cusP []) trivial s
structure MrgI(F:FT)(D:HProp)(to:BA)(BAD:Prop)(S:Nat→List Pr)(fr:BA)(most:Int)(n:Nat)(cs:List Cu)(out:List Pr)(Rr:Nat→List Pr):Prop where
 len:cs.length=n
 cur:∀ j (hj:j<cs.length),CuJ F D to BAD S Rr j cs[j]
 sz:lenR Rr n+out.length≤1000000000
 res:mrgT S n fr to most=out++((putAllB (rsL Rr n) []).filter (fun p=> !p.g)).take (most-(out.length:Int)).toNat
 le:(out.length:Int)≤most
theorem MrgI.all{F:FT}{D:HProp}{to:BA}{BAD:Prop}{S:Nat→List Pr}{fr:BA}{most:Int}{n:Nat}{cs:List Cu}{out:List Pr}{Rr:Nat→List Pr}(h:MrgI F D to BAD S fr most n cs out Rr):∀ c∈cs,CuI F D c:=fun c hc=>by
 obtain⟨j,hj,rfl⟩:=List.getElem_of_mem hc
 exact(h.cur j hj).i
theorem MrgI.bad{F:FT}{D:HProp}{to:BA}{BAD:Prop}{S:Nat→List Pr}{fr:BA}{most:Int}{n:Nat}{cs:List Cu}{out:List Pr}{Rr:Nat→List Pr}(h:MrgI F D to BAD S fr most n cs out Rr){key:BA}(he:passE F key cs≠0):BAD:=by
 obtain⟨c,hc,hx⟩:=passE_bad he
 obtain⟨j,hj,rfl⟩:=List.getElem_of_mem hc
 exact(h.cur j hj).bad hx
theorem MrgI.done{F:FT}{D:HProp}{to:BA}{BAD:Prop}{S:Nat→List Pr}{fr:BA}{most:Int}{n:Nat}{cs:List Cu}{out:List Pr}{Rr:Nat→List Pr}(h:MrgI F D to BAD S fr most n cs out Rr)(hd:leastC cs=none∨¬ (out.length:Int)<most):out=mrgT S n fr to most:=by
 rw[h.res]
 rcases hd with hd|hd
 ·have:=(least_left h.cur).1 hd
  rw[h.len]at this
  rw[this];simp
 ·rw[show(most-(out.length:Int)).toNat=0 by omega,List.take_zero,List.append_nil]
theorem MrgI.next{F:FT}{D:HProp}{to:BA}{BAD:Prop}{S:Nat→List Pr}{fr:BA}{most:Int}{n:Nat}{cs y:List Cu}{out out':List Pr}{Rr:Nat→List Pr}{c:Cu}{p:Pr}{l:List Pr}(h:MrgI F D to BAD S fr most n cs out Rr)(hb:leastC cs=some c)(hx:c.xs=p::l)
  (hlt:(out.length:Int)<most)(he:passE F p.k cs=0)(hy:y.map coC=cs.map (stC F p.k))(hI:∀ c∈y,CuI F D c)(ho:out'=bif p.g then out else out++[p]):
  MrgI F D to BAD S fr most n y out' (fun j=>dropK p.k (Rr j))∧lenR (fun j=>dropK p.k (Rr j)) n<lenR Rr n:=by
 obtain⟨hm,p',l',hx',hput⟩:=(least_left h.cur).2 c hb
 rw[hx]at hx'
 obtain⟨rfl,rfl⟩:=List.cons.inj hx'
 rw[h.len]at hput
 have hly:y.length=cs.length:=by have:=congrArg List.length hy;simpa using this
 have hlr:lenR (fun j=>dropK p.k (Rr j)) n<lenR Rr n:=by
  obtain⟨j,hj,rfl⟩:=List.getElem_of_mem hm
  obtain⟨b,hb2⟩:=(h.cur j hj).fit.pre
  rw[hx]at hb2
  exact lenR_lt (by rw[← h.len];exact hj) (l:=l++b) hb2
 refine⟨⟨by rw[hly,h.len],fun j hj=>?_,?_,?_,?_⟩,hlr⟩
 ·have hj2:j<cs.length:=by omega
  refine(h.cur j hj2).step (passE_zero he _ (List.getElem_mem hj2)) ?_ (hI _ (List.getElem_mem hj))
  have e1:=congrArg (fun t=>t[j]?) hy
  simp only[List.getElem?_map,List.getElem?_eq_getElem hj,List.getElem?_eq_getElem hj2,Option.map_some,Option.some.injEq]at e1
  exact e1
 ·have:=h.sz
  rw[ho]
  cases p.g with
  |true=>rw[cond_true];omega
  |false=>rw[cond_false,List.length_append,List.length_singleton];omega
 ·rw[h.res,hput,ho,List.filter_cons]
  cases p.g with
  |true=>simp
  |false=>
   rw[cond_false,List.append_assoc,List.length_append,List.length_singleton]
   obtain⟨k,hk⟩:∃ k,(most-(out.length:Int)).toNat=k+1:=⟨(most-(out.length:Int)).toNat-1,by omega⟩
   rw[hk,show(most-((out.length+1:Nat):Int)).toNat=k by omega]
   simp
 ·rw[ho]
  cases p.g with
  |true=>rw[cond_true];omega
  |false=>rw[cond_false,List.length_append,List.length_singleton];omega
theorem map_cb{cs y:List Cu}{F:FT}{k:BA}(h:y.map coC=cs.map (stC F k)):(y.map fun c=>[Value.pointer (some ⟨c.cb,0,none⟩)])=cs.map fun c=>[Value.pointer (some ⟨c.cb,0,none⟩)]:=by
 have:=congrArg (List.map fun t:Nat×Value×BA×Int×List Pr=>[Value.pointer (some ⟨t.1,0,none⟩)]) h
 rw[List.map_map,List.map_map]at this
 exact this
set_option maxHeartbeats 8000000 in
theorem merge_spec(u:Value)(Q D:HProp)(ivs:List Value)(fr to:BA)(most:Int)(F:FT)(BAD:Prop)(S:Nat→List Pr)(hA:Vw Q 1 u (ivs.map fun v=>[v]))(hz:ivs.length≤1000)(hm:0≤most)
  (hS:∀ j (hj:j<ivs.length),SrcI F D to BAD S ivs[j] j)(hN:lenR (fun j=>(S j).filter (withB fr to)) ivs.length≤1000000000):
  FSpec Tryz.prog 37 [u,.string fr,.string to,.int .i64 most] [Q,D] (List Pr×V1s×Int) (fun y=>(y.2.2=0∧y.1=mrgT S ivs.length fr to most)∨(BAD∧y.2.2≠0∧y.1=[])) (fun y=>.tuple #[y.2.1.1,.int .i64 y.2.2])
   (fun y=>[row 65 3 y.2.1.1 (y.1.map prV),Q,D]):=by
 have lm:(ivs.map fun v=>[v]).length=ivs.length:=by simp
 refine spec_intro [] _ Tryz.func37 rfl Tryz.ntmps37 (by rfl) (fun w0 R=>?_)
 refine ok_learn (VwIn.slice (VwIn.here hA)) ?_
 rintro⟨pa,ca,rfl⟩
 repeat'(first|(refine gY ?_;intros)|(refine hY ?_ ?_<;>intro hgd)|(refine jY ?_ ?_<;>intro _)|fail)
 rename_i m0
 have hR0:∀ dn:List Cu,dn.length≤ivs.length→(∀ j (hj:j<dn.length),CuJ F D to BAD S (fun j=>(S j).filter (withB fr to)) j dn[j])→dn.length=ivs.length→MrgI F D to BAD S fr most ivs.length dn [] (fun j=>(S j).filter (withB fr to)):=fun dn h1 h2 h3=>
  ⟨h3,h2,by show lenR _ _+0≤_;exact hN,by unfold mrgT;rw[List.nil_append,List.length_nil,Int.ofNat_zero,Int.sub_zero],by simpa using hm⟩
 refine ok_map (fun _ h=>nilRow (e:=146) (n:=1) h) ?_
 refine ok_map (fun _ h=>cus_nil h) ?_
 refine ok_map (L':=[pts m0 (.cells [.slice none 0 0].toArray 143),row 146 1 (.slice none 0 0) (([]:List Cu).map fun c=>[.pointer (some ⟨c.cb,0,none⟩)]),cusP [],Q,D]++R) entD ?_
 refine ok_loop' (γ:=List Cu×V1s) (fun g ρ L=>(g.1.length≤ivs.length∧∀ j (hj:j<g.1.length),CuJ F D to BAD S (fun j=>(S j).filter (withB fr to)) j g.1[j])∧Knows ρ [(1,.string fr),(2,.string to),(3,.int .i64 most),(8,.slice none 0 0),(10,.pointer (some ⟨m0,0,none⟩)),(20,.slice pa (ivs.map fun v=>[v]).length ca),(21,.int .i64 ((ivs.map fun v=>[v]).length:Int)),(22,.int .i64 (g.1.length:Int))]∧
   L=[pts m0 (.cells [g.2.1].toArray 143),row 146 1 g.2.1 (g.1.map fun c=>[.pointer (some ⟨c.cb,0,none⟩)]),cusP g.1,Q,D]++R) (fun g=>ivs.length-g.1.length) ([],⟨.slice none 0 0,rfl⟩) ⟨⟨Nat.zero_le _,(fun j hj=>absurd hj (Nat.not_lt_zero _))⟩,⟨rfl,rfl,rfl,rfl,rfl,rfl,rfl,rfl,trivial⟩,rfl⟩ ?_
 rintro⟨dn,⟨lv,hlv⟩⟩ ρ L ⟨⟨hi,hdn⟩,hk,rfl⟩
 dsimp only at hi hdn hk ⊢
 refine ok_regs hk ?_
 clear hk
 have lmd:(dn.map fun c=>[Value.pointer (some ⟨c.cb,0,none⟩)]).length=dn.length:=by simp
 refine ok_learn (rowShapeS (e:=146) (n:=1) (v:=lv) (xs:=dn.map fun c=>[.pointer (some ⟨c.cb,0,none⟩)]) (by decide) takeD) ?_
 rintro⟨pl,cl,rfl,hcl,hsl⟩
 cases t1:decide ((dn.length:Int)<((ivs.map fun v=>[v]).length:Int))with
 |false=>
  have hie:dn.length=ivs.length:=by have:=of_decide_eq_false t1;omega
  have hI:=hR0 dn hi hdn hie
  clear hR0 hdn
  repeat'(first|(refine gY ?_;intros)|(refine hY ?_ ?_<;>intro hgd)|(refine jY ?_ ?_<;>intro _)|fail)
  refine cl_Y (least_spec m0 (.slice pl (dn.map fun c=>[Value.pointer (some ⟨c.cb,0,none⟩)]).length cl) (row 146 1 (.slice pl (dn.map fun c=>[Value.pointer (some ⟨c.cb,0,none⟩)]).length cl) (dn.map fun c=>[Value.pointer (some ⟨c.cb,0,none⟩)])) dn Vw.row (by omega) (fun c hc=>(hI.all c hc).vw)) ?_
  intro _ _
  repeat'(first|(refine gY ?_;intros)|(refine hY ?_ ?_<;>intro hgd)|(refine jY ?_ ?_<;>intro _)|fail)
  have hPT:(dn.map fun c=>[Value.pointer (some ⟨c.cb,0,none⟩)])=dn.map fun c=>[Value.pointer (some ⟨c.cb,0,none⟩)]:=rfl
  generalize hPTe:(dn.map fun c=>[Value.pointer (some ⟨c.cb,0,none⟩)])=PT at hPT lmd hlv hcl ⊢
  generalize hlvq:Value.slice pl PT.length cl=lv at hlv ⊢
  have hB:Vw (row 146 1 lv PT) 1 lv PT:=Vw.row
  refine ok_map (fun _ h=>nilRow (e:=65) (n:=3) h) ?_
  refine ok_map (L':=[pts m0 (.cells [lv].toArray 143),row 146 1 lv PT,cusP dn,row 65 3 (.slice none 0 0) (([]:List Pr).map prV),Q,D]++R) entD ?_
  refine ok_loop' (γ:=List Cu×V1s×List Pr×(Nat→List Pr)) (fun g ρ L=>(MrgI F D to BAD S fr most ivs.length g.1 g.2.2.1 g.2.2.2∧(g.1.map fun c=>[Value.pointer (some ⟨c.cb,0,none⟩)])=PT)∧Knows ρ [(3,.int .i64 most),(8,g.2.1.1),(10,.pointer (some ⟨m0,0,none⟩)),(15,cuPtr (leastC g.1))]∧
    L=[pts m0 (.cells [lv].toArray 143),row 146 1 lv PT,cusP g.1,row 65 3 g.2.1.1 (g.2.2.1.map prV),Q,D]++R) (fun g=>lenR g.2.2.2 ivs.length) (dn,⟨.slice none 0 0,rfl⟩,[],(fun j=>(S j).filter (withB fr to))) ⟨⟨hI,hPTe⟩,⟨rfl,rfl,rfl,rfl,trivial⟩,rfl⟩ ?_
  clear hPTe hPT hI hi hie t1
  rintro⟨cs,⟨ov,hov⟩,out,Rr⟩ ρ L ⟨⟨hI,hPTe⟩,hk,rfl⟩
  dsimp only at hI hPTe hk ⊢
  refine ok_regs hk ?_
  clear hk
  have hsz:=hI.sz
  have hlc:cs.length≤1000:=by have:=hI.len;omega
  have lo:(out.map prV).length=out.length:=by simp
  refine ok_learn (rowShapeS (e:=65) (n:=3) (v:=ov) (xs:=out.map prV) (by decide) takeD) ?_
  rintro⟨po,co,rfl,hco,hso⟩
  cases hb:leastC cs with
  |none=>
   have hdn:=hI.done (.inl hb)
   clear hb
   dsimp only[cuPtr,Option.map_none]
   repeat'(first|(refine gY ?_;intros)|(refine hY ?_ ?_<;>intro hgd)|(refine jY ?_ ?_<;>intro _)|fail)
   (refine rt_Y (y:=(out,⟨.slice po (out.map prV).length co,hov⟩,0)) (hrs:=Tryz.results37) (hv:=?_) (hφ:=?_))
   ·rfl
   ·exact .inl ⟨rfl,hdn⟩
  |some c=>
   dsimp only[cuPtr,Option.map_some]
   cases t2:decide (((out.map prV).length:Int)<most)with
   |false=>
    have hdn:=hI.done (.inr (by have:=of_decide_eq_false t2;omega))
    clear hb
    repeat'(first|(refine gY ?_;intros)|(refine hY ?_ ?_<;>intro hgd)|(refine jY ?_ ?_<;>intro _)|fail)
    (refine rt_Y (y:=(out,⟨.slice po (out.map prV).length co,hov⟩,0)) (hrs:=Tryz.results37) (hv:=?_) (hφ:=?_))
    ·rfl
    ·exact .inl ⟨rfl,hdn⟩
   |true=>
    have hlt:(out.length:Int)<most:=by have:=of_decide_eq_true t2;omega
    obtain⟨hcm,p,l,hx,hput⟩:=(least_left hI.cur).2 c hb
    clear hput
    have hps:=pass_spec m0 lv (row 146 1 lv PT) D cs p.k F (by rw[hPTe];exact Vw.row) hlc hI.all
    have hnx:=fun(out':List Pr) (y:List Cu) he hy hyI ho=>hI.next (c:=c) (p:=p) (l:=l) (out':=out') (y:=y) hb hx hlt he hy hyI ho
    have hbad:=fun h=>hI.bad (key:=p.k) h
    have hls:=fun(y:List Cu) (hy:y.map coC=cs.map (stC F p.k)) (hyI:∀ c∈y,CuI F D c)=>least_spec m0 lv (row 146 1 lv PT) y (by rw[map_cb hy,hPTe];exact Vw.row) (by have:=congrArg List.length hy;simp at this;omega) (fun c hc=>(hyI c hc).vw)
    have hcb:=fun(y:List Cu) (hy:y.map coC=cs.map (stC F p.k))=>(map_cb hy).trans hPTe
    generalize passE F p.k cs=e at hps hnx hbad
    have hrd:=cus_rd hcm
    have hvw:=cus_vw hcm (hI.all c hcm).vw
    clear hb hI
    obtain⟨cb,iv,to',⟨v,hv⟩,yg,xs,Ac⟩:=c
    dsimp only at hx hrd hvw
    subst hx
    dsimp only[cuC]at hrd
    refine ok_learn (VwIn.slice (VwIn.there (VwIn.there (VwIn.here hvw)))) ?_
    rintro⟨pc,cc,rfl⟩
    have hl2:((p::l).map prV).length=l.length+1:=by simp
    have hx1:((p::l).map prV)[0]? =some (prV p):=rfl
    obtain⟨pk,pv,pg⟩:=p
    dsimp only[prV]at hx1
    dsimp only at hps hnx hbad hls hcb
    generalize hXS:((⟨pk,pv,pg⟩:Pr)::l).map prV=XS at*
    have hn0:0<XS.length:=by omega
    refine ok_learn (VwIn.base (n:=3) (xs:=XS) (VwIn.there (VwIn.there (VwIn.here hvw))) (by intro e;rw[e]at hl2;simp at hl2)) ?_
    rintro⟨bd,od,rfl⟩
    cases pg with
    |true=>
     by_cases he:e=0
     ·subst he
      clear hbad
      repeat'(first|(refine gY ?_;intros)|(refine hY ?_ ?_<;>intro hgd)|(refine jY ?_ ?_<;>intro _)|fail)
      refine cl_Y (hps) ?_
      rintro y ⟨hy1,hy2⟩
      have hy:=hy1 rfl
      obtain⟨hn1,hn2⟩:=hnx out y rfl hy hy2 rfl
      have hcy:=hcb y hy
      have hly:=hls y hy hy2
      clear hnx hcb hls hy1 hps
      repeat'(first|(refine gY ?_;intros)|(refine hY ?_ ?_<;>intro hgd)|(refine jY ?_ ?_<;>intro _)|fail)
      refine cl_Y (hly) ?_
      intro _ _
      repeat'(first|(refine gY ?_;intros)|(refine hY ?_ ?_<;>intro hgd)|(refine jY ?_ ?_<;>intro _)|fail)
      refine cont_map (L':=[pts m0 (.cells [lv].toArray 143),row 146 1 lv PT,cusP y,row 65 3 (.slice po (out.map prV).length co) (out.map prV),Q,D]++R) entD ?_
      exact cont_back (y,⟨.slice po (out.map prV).length co,hov⟩,out,(fun j=>dropK pk (Rr j))) ⟨⟨hn1,hcy⟩,⟨rfl,rfl,rfl,rfl,trivial⟩,rfl⟩ hn2
     ·have f2:(!decide (e=0))=true:=by simp[he]
      have hB2:=hbad he
      clear hnx hcb hls hbad
      repeat'(first|(refine gY ?_;intros)|(refine hY ?_ ?_<;>intro hgd)|(refine jY ?_ ?_<;>intro _)|fail)
      refine cl_Y (hps) ?_
      rintro y ⟨hy1,hy2⟩
      clear hy1
      repeat'(first|(refine gY ?_;intros)|(refine hY ?_ ?_<;>intro hgd)|(refine jY ?_ ?_<;>intro _)|fail)
      refine cont_map (fun _ h=>nilRow (e:=65) (n:=3) h) ?_
      (refine rt_Y (y:=([],⟨.slice none 0 0,rfl⟩,e)) (hrs:=Tryz.results37) (hv:=?_) (hφ:=?_))
      ·rfl
      ·exact .inr ⟨hB2,he,rfl⟩
    |false=>
     by_cases he:e=0
     ·subst he
      clear hbad
      repeat'(first|(refine gY ?_;intros)|(refine hY ?_ ?_<;>intro hgd)|(refine jY ?_ ?_<;>intro _)|fail)
      rename_i v1 hv1 v2 hv2
      refine cl_Y (hps) ?_
      rintro y ⟨hy1,hy2⟩
      have hy:=hy1 rfl
      obtain⟨hn1,hn2⟩:=hnx (out++[⟨pk,pv,false⟩]) y rfl hy hy2 rfl
      have hcy:=hcb y hy
      have hly:=hls y hy hy2
      clear hnx hcb hls hy1 hps
      repeat'(first|(refine gY ?_;intros)|(refine hY ?_ ?_<;>intro hgd)|(refine jY ?_ ?_<;>intro _)|fail)
      refine cl_Y (hly) ?_
      intro _ _
      repeat'(first|(refine gY ?_;intros)|(refine hY ?_ ?_<;>intro hgd)|(refine jY ?_ ?_<;>intro _)|fail)
      refine cont_map (L':=[pts m0 (.cells [lv].toArray 143),row 146 1 lv PT,cusP y,row 65 3 v2 ((out++[(⟨pk,pv,false⟩:Pr)]).map prV),Q,D]++R) (by rw[List.map_append];exact entD) ?_
      exact cont_back (y,⟨v2,hv2⟩,out++[(⟨pk,pv,false⟩:Pr)],(fun j=>dropK pk (Rr j))) ⟨⟨hn1,hcy⟩,⟨rfl,rfl,rfl,rfl,trivial⟩,rfl⟩ hn2
     ·have f2:(!decide (e=0))=true:=by simp[he]
      have hB2:=hbad he
      clear hnx hcb hls hbad
      repeat'(first|(refine gY ?_;intros)|(refine hY ?_ ?_<;>intro hgd)|(refine jY ?_ ?_<;>intro _)|fail)
      refine cl_Y (hps) ?_
      rintro y ⟨hy1,hy2⟩
      clear hy1
      repeat'(first|(refine gY ?_;intros)|(refine hY ?_ ?_<;>intro hgd)|(refine jY ?_ ?_<;>intro _)|fail)
      refine cont_map (fun _ h=>nilRow (e:=65) (n:=3) h) ?_
      (refine rt_Y (y:=([],⟨.slice none 0 0,rfl⟩,e)) (hrs:=Tryz.results37) (hv:=?_) (hφ:=?_))
      ·rfl
      ·exact .inr ⟨hB2,he,rfl⟩
 |true=>
  have h0:dn.length<ivs.length:=by have:=of_decide_eq_true t1;omega
  have hx:(ivs.map fun v=>[v])[dn.length]? =some [ivs[dn.length]]:=by rw[List.getElem?_map,List.getElem?_eq_getElem h0];rfl
  have hn1:dn.length<(ivs.map fun v=>[v]).length:=by omega
  have hsi:=hS _ h0
  generalize ivs[dn.length]=iv at hx hsi
  obtain⟨ti,xi,rfl⟩:=hsi.ifc
  refine ok_learn (VwIn.base (n:=1) (xs:=ivs.map fun v=>[v]) (VwIn.there (VwIn.there (VwIn.there (VwIn.here hA)))) (by intro e;rw[e]at hn1;simp at hn1)) ?_
  rintro⟨bu,ou,rfl⟩
  have hF:=fun cb=>fill_spec cb (.iface ti xi) (.slice none 0 0) to fr dn.length D (F dn.length) ti xi rfl rfl hsi.nxt
  have hfl:=hsi.fl fr
  have han:=hsi.ans fr
  generalize hr:F dn.length fr to 4=r at hF hfl han
  obtain⟨xs',e⟩:=r
  dsimp only at hF hfl han
  have hnew:∀ (cb:Nat) (w:V1s),capOk w.1→e=0→CuJ F D to BAD S (fun j=>(S j).filter (withB fr to)) dn.length ⟨cb,.iface ti xi,to,w,dn.length,xs',row 65 3 w.1 (xs'.map prV)⟩:=fun cb w hc he=>by
   refine⟨hsi,rfl,rfl,?_,Vw.row,hc,hfl.1,hfl.2⟩
   rcases han with h|⟨_,_,h⟩
   ·rw[show xs'=scanR (S dn.length) fr to 4 from congrArg Prod.fst h]
    exact fit_start hsi.srt
   ·exact absurd he h
  clear hr
  by_cases he:e=0
  ·subst he
   clear han hfl hS hR0
   repeat'(first|(refine gY ?_;intros)|(refine hY ?_ ?_<;>intro hgd)|(refine jY ?_ ?_<;>intro _)|fail)
   rename_i cb
   refine cl_Y (hF cb) ?_
   rintro⟨w,hw⟩ _
   dsimp only
   refine ops_learn (rowShapeS (e:=65) (n:=3) (v:=w) (xs:=xs'.map prV) (by decide) takeD) ?_
   rintro⟨px,cx,rfl,hcx,hsx⟩
   repeat'(first|(refine gY ?_;intros)|(refine hY ?_ ?_<;>intro hgd)|(refine jY ?_ ?_<;>intro _)|fail)
   rename_i v1 hv1 v2 hv2
   have hc2:=hnew cb ⟨.slice px (xs'.map prV).length cx,hw⟩ ⟨_,_,_,rfl,hcx⟩ rfl
   dsimp only at hc2
   clear hnew
   refine cont_map (fun _ h=>cus_nil h) ?_
   refine cont_map (L':=[cusP dn,pts cb (.cells [.iface ti xi,.string to,.slice px (xs'.map prV).length cx,.int .i64 (dn.length:Int)].toArray 148),row 65 3 (.slice px (xs'.map prV).length cx) (xs'.map prV),cusP [],pts m0 (.cells [v2].toArray 143),row 146 1 v2 ((dn.map fun c=>[.pointer (some ⟨c.cb,0,none⟩)])++[[.pointer (some ⟨cb,0,none⟩)]]),Q,D]++R) entD ?_
   refine cont_map (fun _ h=>cus_shut (c:=⟨cb,.iface ti xi,to,⟨.slice px (xs'.map prV).length cx,hw⟩,dn.length,xs',row 65 3 (.slice px (xs'.map prV).length cx) (xs'.map prV)⟩) h) ?_
   rw[List.append_nil]
   have hcnb:(⟨cb,.iface ti xi,to,⟨.slice px (xs'.map prV).length cx,hw⟩,dn.length,xs',row 65 3 (.slice px (xs'.map prV).length cx) (xs'.map prV)⟩:Cu).cb=cb:=rfl
   generalize (⟨cb,.iface ti xi,to,⟨.slice px (xs'.map prV).length cx,hw⟩,dn.length,xs',row 65 3 (.slice px (xs'.map prV).length cx) (xs'.map prV)⟩:Cu)=cn at hc2 hcnb ⊢
   refine cont_map (L':=[pts m0 (.cells [v2].toArray 143),row 146 1 v2 ((dn++[cn]).map fun c=>[Value.pointer (some ⟨c.cb,0,none⟩)]),cusP (dn++[cn]),Q,D]++R) (by rw[List.map_append,List.map_singleton,hcnb];exact entD) ?_
   have hl1:(dn++[cn]).length=dn.length+1:=by simp
   exact cont_back (dn++[cn],⟨v2,hv2⟩) ⟨⟨by dsimp only;omega,all_snoc hdn hc2⟩,⟨rfl,rfl,rfl,rfl,rfl,rfl,rfl,by dsimp only;rw[hl1];rfl,trivial⟩,rfl⟩ (by dsimp only;omega)
  ·have f2:(!decide (e=0))=true:=by simp[he]
   have hB:BAD:=by
    rcases han with h|⟨h,_⟩
    ·exact absurd (congrArg Prod.snd h) he
    ·exact h
   clear han hfl hS hR0 hnew
   repeat'(first|(refine gY ?_;intros)|(refine hY ?_ ?_<;>intro hgd)|(refine jY ?_ ?_<;>intro _)|fail)
   rename_i cb
   refine cl_Y (hF cb) ?_
   rintro⟨w,hw⟩ _
   dsimp only
   repeat'(first|(refine gY ?_;intros)|(refine hY ?_ ?_<;>intro hgd)|(refine jY ?_ ?_<;>intro _)|fail)
   refine cont_map (fun _ h=>nilRow (e:=65) (n:=3) h) ?_
   (refine rt_Y (y:=([],⟨.slice none 0 0,rfl⟩,e)) (hrs:=Tryz.results37) (hv:=?_) (hφ:=?_))
   ·rfl
   ·exact .inr ⟨hB,he,rfl⟩
end Go.Proofs.YtgbmjoenbocfcaaGreat
namespace Go.Proofs.YtgbmjoenbocfcaaGreat
open Go Go.Fx Go.Pl
theorem inB_eq(to:BA)(p:Pr):inB to p=tB to p:=by unfold inB tB;rw[nil_toList]
theorem eat_goS{to:BA}{most:Nat}:∀ (xs pre:List Pr),Sorted xs→(∀ p∈pre,inB to p=true)→pre.length<most→((eat (goS to most) pre xs).1).filter (inB to)=pre++(xs.filter (inB to)).take (most-pre.length)
 | [],pre,_,hp,_=>by
  simp only[eat,List.filter_nil,List.take_nil,List.append_nil]
  exact List.filter_eq_self.2 hp
 |x::xs,pre,hs,hp,hl=>by
  have hx:=List.pairwise_cons.1 hs
  have hfp:pre.filter (inB to)=pre:=List.filter_eq_self.2 hp
  rw[eat_cons,goS_snoc,List.filter_append,hfp,List.filter_cons,List.filter_cons]
  cases hb:inB to x with
  |false=>
   have hn:xs.filter (inB to)=[]:=by
    rw[List.filter_eq_nil_iff]
    intro y hy
    have h1:=hx.1 y hy
    unfold inB at hb ⊢
    rw[Bool.or_eq_false_iff]at hb
    cases h2:ltS y.k to with
    |true=>rw[ltS_trans h1 h2]at hb;exact absurd hb.2 (by simp)
    |false=>rw[hb.1];simp
   simp[hb,hfp,hn]
  |true=>
   obtain⟨k,hk⟩:∃ k,most-pre.length=k+1:=⟨most-pre.length-1,by omega⟩
   by_cases h1:pre.length+1=most
   ·have:k=0:=by omega
    subst this
    have e1:decide ((((pre++[x]).length:Nat):Int)=(most:Int))=true:=by rw[List.length_append,List.length_singleton,h1];simp
    simp only[List.filter_nil,if_true,e1,Bool.not_true,Bool.and_false,Bool.false_eq_true,if_false,List.filter_append,hfp,hk,List.take_succ_cons,List.take_zero,List.filter_cons,hb]
   ·have e1:decide ((((pre++[x]).length:Nat):Int)=(most:Int))=false:=by
     rw[List.length_append,List.length_singleton];exact decide_eq_false (by omega)
    have ih:=eat_goS (to:=to) (most:=most) xs (pre++[x]) hx.2 (fun p h=>by
     rcases List.mem_append.1 h with h|h
     ·exact hp p h
     ·rw[List.mem_singleton.1 h];exact hb) (by rw[List.length_append,List.length_singleton];omega)
    simp only[List.filter_nil,if_true,e1,Bool.not_false,Bool.and_self]
    rw[ih,List.length_append,List.length_singleton,hk,show most-(pre.length+1)=k by omega,List.take_succ_cons,List.append_assoc];rfl
theorem scanL_eq{l:List Pr}(hs:Sorted l)(fr to:BA)(most:Nat)(hm:1≤most):scanL fr to most l=scanR l fr to most:=by
 unfold scanL scanR
 have h1:=eat_goS (to:=to) (most:=most) (fil fr l) [] (sorted_filter _ hs) (fun p h=>by cases h) (by simp;omega)
 rw[h1,List.nil_append,List.length_nil,Nat.sub_zero]
 congr 1
 rw[withB_eq]
 unfold fil
 rw[List.filter_filter,List.filter_filter]
 congr 1
 funext p
 rw[inB_eq,Bool.and_comm]
theorem eat_rd{rd:En→Pr×Int}{to:BA}{most:Int}{BAD:Prop}:∀ (l:List En) (pre:List (Pr×Int)),(∀ e∈l,rd e=rdG e∨(BAD∧(rd e).2≠0))→(eat (goR most) pre (yR rd to l)).1=(eat (goR most) pre (yR rdG to l)).1∨(BAD∧errR (eat (goR most) pre (yR rd to l)).1≠0)
 | [],pre,_=>.inl rfl
 |x::l,pre,h=>by
  unfold yR
  cases he:endR to x with
  |true=>exact .inl rfl
  |false=>
   have h0:(rdG x).2=0:=rfl
   simp only[Bool.false_eq_true,if_false,h0,ne_eq,not_true_eq_false]
   rcases h x (List.mem_cons_self ..)with hx|⟨hb,hx⟩
   ·rw[hx]
    simp only[h0,not_true_eq_false,if_false]
    rw[eat_cons,eat_cons]
    cases goR most (pre++[rdG x])with
    |false=>exact .inl rfl
    |true=>exact eat_rd l (pre++[rdG x]) (fun e he=>h e (List.mem_cons_of_mem _ he))
   ·refine .inr ⟨hb,?_⟩
    rw[if_pos hx,eat_cons]
    have e1:(if goR most (pre++[rd x])then eat (goR most) (pre++[rd x]) []else(pre++[rd x],false)).1=pre++[rd x]:=by
     split<;>rfl
    rw[e1,errR_snoc];exact hx
theorem scanR2_ans{rd:En→Pr×Int}{BAD:Prop}{l:List Pr}(hs:Sorted l)(h:∀ e∈ents l,rd e=rdG e∨(BAD∧(rd e).2≠0))(fr to:BA)(most:Nat)(hm:1≤most):
  scanR2 rd (ents l) fr to most=(scanR l fr to most,0)∨(BAD∧(scanR2 rd (ents l) fr to most).1=[]∧(scanR2 rd (ents l) fr to most).2≠0):=by
 unfold scanR2
 rcases eat_rd (to:=to) (most:=(most:Int)) ((ents l).drop (posR (ents l) fr)) [] (fun e he=>h e (List.mem_of_mem_drop he))with e|⟨hb,hx⟩
 ·rw[e]
  have hg:=scan_good hs fr to most hm
  rw[hg.1,hg.2];exact .inl rfl
 ·refine .inr ⟨hb,?_,hx⟩
  show colR _=[]
  unfold colR;rw[if_pos hx]
theorem of_some{f:Pr→Bool}(p:Pr):Option.filter f (some p)=if f p then some p else none:=rfl
theorem look_key{k:BA}{l:List Pr}{p:Pr}(h:Pl.look k l=some p):p.k=k:=(look_some h).2
theorem look_filter{f:Pr→Bool}(hf:∀ p q:Pr,p.k=q.k→f p=f q)(k:BA):∀ l:List Pr,Pl.look k (l.filter f)=(Pl.look k l).filter f
 | []=>rfl
 |p::l=>by
  have ih:=look_filter hf k l
  rw[List.filter_cons,look_cons]
  cases e:(k.toList==p.k.toList)with
  |true=>
   have ek:=eqS_iff.1 e
   cases hp:f p with
   |true=>simp[look_cons,e,hp,of_some]
   |false=>
    rw[if_neg (by simp),ih]
    simp only[if_true,of_some,hp,Bool.false_eq_true,if_false]
    cases h:Pl.look k l with
    |none=>rfl
    |some q=>
     have:=hf q p ((look_key h).trans ek)
     simp[this,hp,of_some]
  |false=>
   cases hp:f p with
   |true=>rw[if_pos rfl,look_cons,e,ih];simp
   |false=>rw[if_neg (by simp),ih];simp
theorem lookB_filter{f:Pr→Bool}(hf:∀ p q:Pr,p.k=q.k→f p=f q)(k:BA):∀ (Ss:List (List Pr)) (o:Option Pr),(∀ q,o=some q→q.k=k)→lookB k (Ss.map (List.filter f)) (o.filter f)=(lookB k Ss o).filter f
 | [],_,_=>rfl
 |l::Ss,o,ho=>by
  show lookB k (Ss.map (List.filter f)) ((Pl.look k (l.filter f)).or (o.filter f))=(lookB k Ss ((Pl.look k l).or o)).filter f
  have e:(Pl.look k (l.filter f)).or (o.filter f)=((Pl.look k l).or o).filter f:=by
   rw[look_filter hf]
   cases h:Pl.look k l with
   |none=>simp
   |some p=>
    cases hp:f p with
    |true=>simp[hp,of_some]
    |false=>
     cases o with
     |none=>simp[hp,of_some]
     |some q=>
      have:=hf q p ((ho q rfl).trans (look_key h).symm)
      simp[hp,this,of_some]
  rw[e]
  refine lookB_filter hf k Ss _ fun q hq=>?_
  cases h:Pl.look k l with
  |none=>rw[h]at hq;exact ho q hq
  |some p=>rw[h]at hq;obtain rfl:=Option.some.inj hq;exact look_key h
theorem putAllB_filter{f:Pr→Bool}(hf:∀ p q:Pr,p.k=q.k→f p=f q){Ss:List (List Pr)}(hs:∀ l∈Ss,Sorted l):putAllB (Ss.map (List.filter f)) []=(putAllB Ss []).filter f:=by
 refine sorted_ext (putAllB_sorted _ List.Pairwise.nil) (sorted_filter _ (putAllB_sorted _ List.Pairwise.nil)) fun k=>?_
 rw[look_filter hf,look_putAllB k [] hs,look_putAllB k [] (fun l hl=>by
  obtain⟨l',hl',rfl⟩:=List.mem_map.1 hl
  exact sorted_filter _ (hs l' hl'))]
 exact lookB_filter hf k Ss none (fun q h=>by cases h)
theorem withB_key(fr to:BA):∀ p q:Pr,p.k=q.k→withB fr to p=withB fr to q:=fun p q h=>by unfold withB;rw[h]
def mrgS(Ss:List (List Pr))(fr to:BA)(most:Int):List Pr:=(((putAllB Ss []).filter (withB fr to)).filter (fun p=> !p.g)).take most.toNat
def srcS(Ss:List (List Pr)):Nat→List Pr:=fun j=>Ss[j]?.getD []
theorem rsL_src(Ss:List (List Pr))(f:List Pr→List Pr):rsL (fun j=>f (srcS Ss j)) Ss.length=Ss.map f:=by
 refine List.ext_getElem (by simp[rsL]) fun j h1 h2=>?_
 rw[List.length_map]at h2
 simp only[rsL,srcS,List.getElem_map,List.getElem_range,List.getElem?_eq_getElem h2,Option.getD_some]
theorem mrgT_eq{Ss:List (List Pr)}(hs:∀ l∈Ss,Sorted l)(fr to:BA)(most:Int):mrgT (srcS Ss) Ss.length fr to most=mrgS Ss fr to most:=by
 unfold mrgT mrgS
 rw[rsL_src Ss (List.filter (withB fr to)),putAllB_filter (withB_key fr to) hs]
theorem lenR_src(Ss:List (List Pr))(f:Pr→Bool):lenR (fun j=>(srcS Ss j).filter f) Ss.length≤(Ss.map List.length).sum:=by
 unfold lenR
 rw[rsL_src Ss (List.filter f),List.map_map]
 induction Ss with
 |nil=>exact Nat.le_refl _
 |cons l Ss ih=>
  simp only[List.map_cons,List.sum_cons,Function.comp]at ih ⊢
  have:=List.length_filter_le f l
  omega
end Go.Proofs.YtgbmjoenbocfcaaGreat
namespace Go.Proofs.YtgbmjoenbocfcaaGreat
open Go Go.Fx Go.Proofs Go.Pl
structure FileAt(d:Dk)(f t:BA):Prop where
 live:d.still=false
 may:mayN f=true
 is:fget f d.files=some t
theorem FileAt.read{d:Dk}{f t:BA}(h:FileAt d f t)(off n:Nat):d.read f off n=(cut t off n,0):=by
 have h1:d.live [f]=0:=by unfold Dk.live;simp[h.live,h.may]
 have h2:d.has f=true:=by unfold Dk.has;rw[h.is];rfl
 have h3:ftext f d.files=t:=by unfold ftext;rw[h.is];rfl
 unfold Dk.read
 rw[h1,h2,h3,if_neg (by simp),if_neg (by omega)];rfl
theorem FileAt.whole{d:Dk}{f t:BA}(h:FileAt d f t)(hz:t.size≤16777216):d.read f 0 16777216=(t,0):=by
 have:=h.read 0 16777216
 rw[show((0:Nat):Int)=0 from rfl,show((16777216:Nat):Int)=16777216 from rfl,cut_all _ _ (by omega)]at this
 exact this
def RdF(nm:BA)(d:Dk)(n:Nat)(l:List Pr)(rd:En→Pr×Int):Prop:=∀ (rb b:Nat) (v:Value) (sz:Int),∀ e∈ents l,
 FSpec Tryz.prog 88 [.pointer (some ⟨rb,0,none⟩),.agg (enV e).toArray] [rnP rb b (fileK nm runK n) v sz,diskP b d] Unit (fun _=>True) (fun _=>.tuple #[.agg (prV (rd e).1).toArray,.int .i64 (rd e).2]) (fun _=>[rnP rb b (fileK nm runK n) v sz,diskP b d])
theorem rdF_good{nm:BA}{d:Dk}{n:Nat}{l:List Pr}(hn:nm.size≤1000000)(hf:FileAt d (fileK nm runK n) (runB l))(hok:∀ p∈l,okP p=true):RdF nm d n l rdG:=fun rb b v sz x hx=>by
 obtain⟨h1,h2,h3⟩:=ents_read (room:=0) hf.may hx
 have hp:=hok _ h1
 have hz:=txtR_small hp
 have h5:d.read (fileK nm runK n) x.at_ x.sz=(frameOf (txtR x.p),0):=by
  rw[← h2,hf.read,dR_read hf.may]
 have hk:runK.size=3:=rfl
 exact rread_good rb b (fileK nm runK n) v sz d x (frameOf (txtR x.p)) (by rw[fileK_size];omega) h5 (by rw[scan_frame _ (by omega),h3]) hp (by rw[frameOf_size];omega)
structure KvR(nm:BA)(K:Kv)(rd:Int×List Pr→En→Pr×Int)(BAD:Prop):Prop where
 rds:∀ x∈K.rs,RdF nm K.d x.1.toNat x.2 (rd x)
 bad:∀ x∈K.rs,∀ e∈ents x.2,rd x e=rdG e∨(BAD∧(rd x e).2=71)
 srt:∀ x∈K.rs,Sorted x.2
 ok:∀ x∈K.rs,∀ p∈x.2,okP p=true
 len:∀ x∈K.rs,x.2.length≤1000000
 mem:MemOk K.mem
 num:K.rs.length≤256
def dsP(b:Nat)(nm:BA)(rs:List Ru)(d:Dk)(mb:Nat)(mem:List Pr):HProp:=fun h=>SatL [runsX b nm rs,diskP b d,memX mb mem] h
theorem runs_open{b:Nat}{nm:BA}{r1 r2:List Ru}{x:Ru}{L:List HProp}{h:Frag}(s:SatL (runsX b nm (r1++x::r2)::L) h):SatL (runX b nm x::runsX b nm r1::runsX b nm r2::L) h:=by
 have s1:SatL ((r1++x::r2).map (runX b nm)++L) h:=SatL.flat s
 rw[List.map_append,List.append_assoc]at s1
 have s2:SatL (runsX b nm r1::(((x::r2).map (runX b nm))++L)) h:=SatL.unflat (M:=r1.map (runX b nm)) s1
 have s3:SatL (runsX b nm r1::runX b nm x::(r2.map (runX b nm)++L)) h:=s2
 exact s3.swap.consMono fun h s4=>s4.consMono fun h s5=>SatL.unflat (M:=r2.map (runX b nm)) s5
theorem runs_shut{b:Nat}{nm:BA}{r1 r2:List Ru}{x:Ru}{L:List HProp}{h:Frag}(s:SatL (runX b nm x::runsX b nm r1::runsX b nm r2::L) h):SatL (runsX b nm (r1++x::r2)::L) h:=by
 refine SatL.unflat (M:=(r1++x::r2).map (runX b nm)) ?_
 rw[List.map_append,List.append_assoc]
 refine SatL.flat (M:=r1.map (runX b nm)) (s.swap.consMono fun h s1=>?_)
 show SatL (runX b nm x::(r2.map (runX b nm)++L)) h
 exact s1.consMono fun h s2=>SatL.flat (M:=r2.map (runX b nm)) s2
theorem vspec_frameK{P:Program}{fv:Value}{args:List Value}{pre:List HProp}{Y:Type}{φ:Y→Prop}{ret:Y→Value}{post:Y→List HProp}(s:VSpec P fv args pre Y φ ret post)(F:List HProp):VSpec P fv args (pre++F) Y φ ret (fun y=>post y++F):=by
 intro w0 w R hs
 rw[List.append_assoc]at hs
 refine(s w0 w (F++R) hs).mono ?_
 rintro e w' ⟨y,hy,he,hw⟩
 exact⟨y,hy,he,by rw[List.append_assoc];exact hw⟩
def srcF(rd:Int×List Pr→En→Pr×Int)(z:List (Int×List Pr))(mem:List Pr):FT:=fun j fr to most=>match z[j.toNat]? with|some x=>scanR2 (rd x) (ents x.2) fr to most|none=>(scanL fr to most mem,0)
theorem run_src{b mb:Nat}{nm:BA}{rs:List Ru}{d:Dk}{mem:List Pr}{x:Ru}{rd:En→Pr×Int}(hx:x∈rs)(hr:RdF nm d x.n x.l rd)(hs:Sorted x.l)(hz:x.l.length≤1000000):Nxt (srcRun x.rb) (dsP b nm rs d mb mem) (fun fr to most=>scanR2 rd (ents x.l) fr to most):=fun fr to most hm=>by
 obtain⟨r1,r2,rfl⟩:=List.append_of_mem hx
 have hes:Sorted ((ents x.l).map (·.p)):=by rw[show(ents x.l).map (·.p)=x.l from entsF_p x.l 20];exact hs
 have h0:VSpec Tryz.prog (.func (.method "fascicle/kv.next") #[] #[]) [srcRun x.rb,.string fr,.string to,.int .i64 most] [runX b nm x,diskP b d] V1s (fun _=>True) (fun y=>.tuple #[y.1,.int .i64 (scanR2 rd (ents x.l) fr to most).2])
   (fun y=>[row 65 3 y.1 ((scanR2 rd (ents x.l) fr to most).1.map prV),runX b nm x,diskP b d]):=by
  refine vspec_ex ?_
  rintro⟨v,hv⟩
  exact(runNxt x.rb b (fileK nm runK x.n) v (runB x.l).size (ents x.l) (diskP b d) rd hes (by rw[show(ents x.l).length=x.l.length from entsF_len x.l 20];omega) (hr x.rb b v _) fr to most hm).conseq (fun R h s=>s) (fun y hy=>⟨y,trivial,rfl,fun R h s=>by
   have s1:SatL ([rnP x.rb b (fileK nm runK x.n) v (runB x.l).size,enP v (ents x.l),row 65 3 y.1 ((scanR2 rd (ents x.l) fr to most).1.map prV),diskP b d]++R) h:=(entD) _ s
   have s2:SatL ([runX b nm x,row 65 3 y.1 ((scanR2 rd (ents x.l) fr to most).1.map prV),diskP b d]++R) h:=runX_in hv s1
   exact(entD) _ s2⟩)
 refine(vspec_frameK h0 [runsX b nm r1,runsX b nm r2,memX mb mem]).conseq (fun R h s=>?_) (fun y hy=>⟨y,trivial,rfl,fun R h s=>?_⟩)
 ·have s1:SatL ([runsX b nm (r1++x::r2),diskP b d,memX mb mem]++R) h:=SatL.flat (M:=[runsX b nm (r1++x::r2),diskP b d,memX mb mem]) s
  have s2:SatL ([runX b nm x,runsX b nm r1,runsX b nm r2,diskP b d,memX mb mem]++R) h:=runs_open s1
  exact(entD) _ s2
 ·have s1:SatL ([runX b nm x,runsX b nm r1,runsX b nm r2,diskP b d,memX mb mem,row 65 3 y.1 ((scanR2 rd (ents x.l) fr to most).1.map prV)]++R) h:=(entD) _ s
  have s2:=runs_shut s1
  have s3:SatL ((fun h=>SatL [runsX b nm (r1++x::r2),diskP b d,memX mb mem] h)::(row 65 3 y.1 ((scanR2 rd (ents x.l) fr to most).1.map prV)::R)) h:=SatL.unflat (M:=[runsX b nm (r1++x::r2),diskP b d,memX mb mem]) s2
  exact s3.swap
theorem mem_src{b mb:Nat}{nm:BA}{rs:List Ru}{d:Dk}{mem:List Pr}(hm:MemOk mem):Nxt (srcMem mb) (dsP b nm rs d mb mem) (fun fr to most=>(scanL fr to most mem,0)):=fun fr to most h1=>by
 refine(vspec_frameK (memNxt mb mem hm fr to most h1) [runsX b nm rs,diskP b d]).conseq (fun R h s=>?_) (fun y hy=>⟨y,trivial,rfl,fun R h s=>?_⟩)
 ·have s1:SatL ([runsX b nm rs,diskP b d,memX mb mem]++R) h:=SatL.flat (M:=[runsX b nm rs,diskP b d,memX mb mem]) s
  exact(entD) _ s1
 ·have s1:SatL ([runsX b nm rs,diskP b d,memX mb mem,row 65 3 y.1 ((scanL fr to most mem).map prV)]++R) h:=(entD) _ s
  have s3:SatL ((fun h=>SatL [runsX b nm rs,diskP b d,memX mb mem] h)::(row 65 3 y.1 ((scanL fr to most mem).map prV)::R)) h:=SatL.unflat (M:=[runsX b nm rs,diskP b d,memX mb mem]) s1
  exact s3.swap
theorem okP_ksz{p:Pr}(h:okP p=true):p.k.size≤1000000:=by have:=okP_k h;omega
theorem src_run{nm:BA}{K:Kv}{rd:Int×List Pr→En→Pr×Int}{BAD:Prop}{b mb:Nat}{rs:List Ru}{to:BA}{S:Nat→List Pr}(hK:KvR nm K rd BAD)(hrs:rs.map (fun x=>((x.n:Int),x.l))=K.rs){j:Nat}(hj:j<rs.length)(hS:S j=rs[j].l):
  SrcI (srcF rd K.rs K.mem) (dsP b nm rs K.d mb K.mem) to BAD S (srcRun rs[j].rb) j:=by
 have hz:K.rs[j]? =some ((rs[j].n:Int),rs[j].l):=by rw[← hrs,List.getElem?_map,List.getElem?_eq_getElem hj];rfl
 have hm:((rs[j].n:Int),rs[j].l)∈K.rs:=List.mem_of_getElem? hz
 have hF:srcF rd K.rs K.mem (j:Int)=fun fr to most=>scanR2 (rd ((rs[j].n:Int),rs[j].l)) (ents rs[j].l) fr to most:=by
  funext fr to most
  unfold srcF
  rw[Int.toNat_natCast,hz]
 refine⟨⟨_,_,rfl⟩,?_,by rw[hS];exact hK.srt _ hm,fun p hp=>okP_ksz (hK.ok _ hm p (by rw[hS]at hp;exact hp)),fun fr=>?_⟩
 ·rw[hF]
  have hr:=hK.rds _ hm
  rw[Int.toNat_natCast]at hr
  exact run_src (List.getElem_mem hj) hr (hK.srt _ hm) (hK.len _ hm)
 ·rw[hF,hS]
  exact scanR2_ans (hK.srt _ hm) (fun e he=>(hK.bad _ hm e he).imp id (fun h=>⟨h.1,by rw[h.2];decide⟩)) fr to 4 (by decide)
theorem src_mem{nm:BA}{K:Kv}{rd:Int×List Pr→En→Pr×Int}{BAD:Prop}{b mb:Nat}{rs:List Ru}{to:BA}{S:Nat→List Pr}(hK:KvR nm K rd BAD)(hrs:rs.map (fun x=>((x.n:Int),x.l))=K.rs)(hS:S rs.length=K.mem):
  SrcI (srcF rd K.rs K.mem) (dsP b nm rs K.d mb K.mem) to BAD S (srcMem mb) rs.length:=by
 have hF:srcF rd K.rs K.mem (rs.length:Int)=fun fr to most=>(scanL fr to most K.mem,0):=by
  funext fr to most
  unfold srcF
  rw[Int.toNat_natCast,← hrs,List.getElem?_eq_none (by simp)]
 refine⟨⟨_,_,rfl⟩,by rw[hF];exact mem_src hK.mem,by rw[hS];exact hK.mem.sorted,fun p hp=>okP_ksz (hK.mem.may p (by rw[hS]at hp;exact hp)),fun fr=>.inl ?_⟩
 rw[hF,hS]
 show(scanL fr to ((4:Nat):Int) K.mem,(0:Int))=_
 rw[scanL_eq hK.mem.sorted fr to 4 (by decide)]
def allS(K:Kv):List (List Pr):=K.rs.map (·.2)++[K.mem]
theorem KvR.sorted{nm:BA}{K:Kv}{rd:Int×List Pr→En→Pr×Int}{BAD:Prop}(h:KvR nm K rd BAD):∀ l∈allS K,Sorted l:=fun l hl=>by
 rcases List.mem_append.1 hl with hl|hl
 ·obtain⟨x,hx,rfl⟩:=List.mem_map.1 hl
  exact h.srt x hx
 ·rw[List.mem_singleton.1 hl];exact h.mem.sorted
theorem sum_le(l:List (List Pr))(n:Nat)(h:∀ x∈l,x.length≤n):(l.map List.length).sum≤l.length*n:=by
 induction l with
 |nil=>simp
 |cons x l ih=>
  have h1:=h x (List.mem_cons_self ..)
  have h2:=ih fun y hy=>h y (List.mem_cons_of_mem _ hy)
  rw[List.map_cons,List.sum_cons,List.length_cons,Nat.succ_mul];omega
theorem KvR.sum{nm:BA}{K:Kv}{rd:Int×List Pr→En→Pr×Int}{BAD:Prop}(h:KvR nm K rd BAD)(f:Pr→Bool):lenR (fun j=>(srcS (allS K) j).filter f) (allS K).length≤1000000000:=by
 have h1:=lenR_src (allS K) f
 have h2:=sum_le (allS K) 1000000 (fun l hl=>by
  rcases List.mem_append.1 hl with hl|hl
  ·obtain⟨x,hx,rfl⟩:=List.mem_map.1 hl
   exact h.len x hx
  ·rw[List.mem_singleton.1 hl];exact h.mem.len)
 have h3:(allS K).length≤257:=by have:=h.num;unfold allS;simp;omega
 have h4:(allS K).length*1000000≤257*1000000:=Nat.mul_le_mul_right _ h3
 omega
theorem ds_in{b mb:Nat}{nm:BA}{rs:List Ru}{d:Dk}{mem:List Pr}{L:List HProp}{h:Frag}(s:SatL (runsX b nm rs::diskP b d::memX mb mem::L) h):SatL (dsP b nm rs d mb mem::L) h:=SatL.unflat (M:=[runsX b nm rs,diskP b d,memX mb mem]) s
theorem ds_out{b mb:Nat}{nm:BA}{rs:List Ru}{d:Dk}{mem:List Pr}{L:List HProp}{h:Frag}(s:SatL (dsP b nm rs d mb mem::L) h):SatL (runsX b nm rs::diskP b d::memX mb mem::L) h:=SatL.flat (M:=[runsX b nm rs,diskP b d,memX mb mem]) s
theorem st_close{kb b mb wb:Nat}{nm:BA}{ft:Int}{K:Kv}{rs:List Ru}{mv rv:Value}(hmv:mv.oneCell'=true)(hwp:(Value.pointer (some ⟨wb,0,none⟩)).oneCell'=true)(hrv:rv.oneCell'=true)(g3:(rs.map fun x=>((x.n:Int),x.l))=K.rs){L:List HProp}{h:Frag}
  (s:SatL (dsP b nm rs K.d mb K.mem::row 70 1 mv (K.m.runs.map uV)::row 83 1 rv (rs.map krV)::walP wb b (fileK nm walK K.m.wal.toNat) K.w::kvP kb b nm K.m mv (.pointer (some ⟨wb,0,none⟩)) mb rv ft::L) h):SatL (stP kb b nm mb ft (kvD b mb nm K)::L) h:=by
 have s1:SatL ([runsX b nm rs,diskP b K.d,memX mb K.mem,row 70 1 mv (K.m.runs.map uV),row 83 1 rv (rs.map krV),walP wb b (fileK nm walK K.m.wal.toNat) K.w,kvP kb b nm K.m mv (.pointer (some ⟨wb,0,none⟩)) mb rv ft]++L) h:=ds_out s
 have s2:SatL ([row 70 1 mv (K.m.runs.map uV),row 83 1 rv (rs.map krV),runsX b nm rs,walP wb b (fileK nm walK K.m.wal.toNat) K.w,diskP b K.d,memX mb K.mem,kvP kb b nm K.m mv (.pointer (some ⟨wb,0,none⟩)) mb rv ft]++L) h:=(entD) _ s1
 exact st_in (kb:=kb) (b:=b) (nm:=nm) (mb:=mb) (ft:=ft) (D:=kvD b mb nm K) ⟨K.m,⟨mv,hmv⟩,⟨.pointer (some ⟨wb,0,none⟩),hwp⟩,⟨rv,hrv⟩⟩ (kv_in (b:=b) (mb:=mb) (nm:=nm) (K:=K) (g:=⟨K.m,⟨mv,hmv⟩,⟨.pointer (some ⟨wb,0,none⟩),hwp⟩,⟨rv,hrv⟩⟩) ⟨wb,rs,rfl,rfl,g3⟩ s2)
set_option maxHeartbeats 4000000 in
theorem kScan_spec(kb b mb:Nat)(nm:BA)(ft:Int)(K:Kv)(fr to:BA)(most:Int)(rd:Int×List Pr→En→Pr×Int)(BAD:Prop)(hK:KvR nm K rd BAD)(hm:1≤most):
  FSpec Tryz.prog 11 [.pointer (some ⟨kb,0,none⟩),.string fr,.string to,.int .i64 most] [stP kb b nm mb ft (kvD b mb nm K)] (List Pr×V1s×Int) (fun y=>(y.2.2=0∧y.1=mrgS (allS K) fr to most)∨(BAD∧y.2.2≠0∧y.1=[]))
   (fun y=>.tuple #[y.2.1.1,.int .i64 y.2.2]) (fun y=>[stP kb b nm mb ft (kvD b mb nm K),row 65 3 y.2.1.1 (y.1.map prV)]):=by
 refine fspec_ex ?_
 rintro⟨m,⟨mv,hmv⟩,⟨wp,hwp⟩,⟨rv,hrv⟩⟩
 show FSpec _ _ _ (exP (kvM b mb nm K ⟨m,⟨mv,hmv⟩,⟨wp,hwp⟩,⟨rv,hrv⟩⟩)::[kvP kb b nm m mv wp mb rv ft]) _ _ _ _
 refine fspec_ex ?_
 rintro⟨wb,rs,g1,g2,g3⟩
 dsimp only at g1 g2 g3
 subst g1 g2
 have hlr:rs.length=K.rs.length:=by rw[← g3,List.length_map]
 have h256:=hK.num
 have t1:decide (most<1)=false:=decide_eq_false (by omega)
 have hsrc:=sources_spec kb b nm K.m mv (.pointer (some ⟨wb,0,none⟩)) mb rv ft rs (row 83 1 rv (rs.map krV)) Vw.row (by omega)
 have hlen:(rs.map (fun x=>srcRun x.rb)++[srcMem mb]).length=(allS K).length:=by unfold allS;simp;omega
 have hS:∀ j (hj:j<(rs.map (fun x=>srcRun x.rb)++[srcMem mb]).length),SrcI (srcF rd K.rs K.mem) (dsP b nm rs K.d mb K.mem) to BAD (srcS (allS K)) (rs.map (fun x=>srcRun x.rb)++[srcMem mb])[j] j:=fun j hj=>by
  rw[List.length_append,List.length_map,List.length_singleton]at hj
  by_cases h1:j<rs.length
  ·rw[List.getElem_append_left (by rw[List.length_map];exact h1),List.getElem_map]
   refine src_run hK g3 h1 ?_
   unfold srcS allS
   rw[← g3,List.getElem?_append_left (by simpa using h1),List.map_map,List.getElem?_map,List.getElem?_eq_getElem h1];rfl
  ·obtain rfl:j=rs.length:=by omega
   rw[List.getElem_append_right (by rw[List.length_map];exact Nat.le_refl _)]
   simp only[List.length_map,Nat.sub_self,List.getElem_cons_zero]
   refine src_mem hK g3 ?_
   unfold srcS allS
   rw[List.getElem?_append_right (by rw[List.length_map,← hlr];exact Nat.le_refl _),List.length_map,← hlr,Nat.sub_self];rfl
 have hmg:=fun(u:Value)=>merge_spec u (row 145 1 u ((rs.map (fun x=>srcRun x.rb)++[srcMem mb]).map fun v=>[v])) (dsP b nm rs K.d mb K.mem) (rs.map (fun x=>srcRun x.rb)++[srcMem mb]) fr to most (srcF rd K.rs K.mem) BAD (srcS (allS K)) Vw.row (by simp;omega) (by omega) hS (by rw[hlen];exact hK.sum _)
 rw[hlen,mrgT_eq hK.sorted]at hmg
 have hiv:(rs.map (fun x=>srcRun x.rb)++[srcMem mb]).map (fun v=>[v])=(rs.map fun x=>[srcRun x.rb])++[[srcMem mb]]:=by rw[List.map_append,List.map_map];rfl
 rw[hiv]at hmg
 have lrs:(rs.map fun x=>[srcRun x.rb]).length≤1000:=by simp;omega
 clear hS hiv hlen
 generalize mrgS (allS K) fr to most=res at hmg ⊢
 unfold kvM
 dsimp only
 unfold kvP kvC at hsrc ⊢
 generalize hds:dsP b nm rs K.d mb K.mem=DS at hmg
 refine spec_intro [] _ Tryz.func11 rfl Tryz.ntmps11 (by rfl) (fun w0 R=>?_)
 repeat'(first|(refine gY ?_;intros)|(refine hY ?_ ?_<;>intro hgd)|(refine jY ?_ ?_<;>intro _)|fail)
 refine ok_map (L':=[runsX b nm rs,diskP b K.d,memX mb K.mem,pts kb (.cells [.pointer (some ⟨b,0,none⟩),.string nm,.int .u64 K.m.wal,mv,.int .u64 K.m.next,.pointer (some ⟨wb,0,none⟩),.pointer (some ⟨mb,0,none⟩),rv,.int .i64 ft].toArray 78),row 70 1 mv (K.m.runs.map uV),row 83 1 rv (rs.map krV),walP wb b (fileK nm walK K.m.wal.toNat) K.w]++R) entD ?_
 refine ok_map (L':=[DS,pts kb (.cells [.pointer (some ⟨b,0,none⟩),.string nm,.int .u64 K.m.wal,mv,.int .u64 K.m.next,.pointer (some ⟨wb,0,none⟩),.pointer (some ⟨mb,0,none⟩),rv,.int .i64 ft].toArray 78),row 70 1 mv (K.m.runs.map uV),row 83 1 rv (rs.map krV),walP wb b (fileK nm walK K.m.wal.toNat) K.w]++R) (fun _ h=>by rw[← hds];exact ds_in h) ?_
 refine ok_draw_node (cv:=[]) 4 [1,8,9,13] [pts kb (.cells [.pointer (some ⟨b,0,none⟩),.string nm,.int .u64 K.m.wal,mv,.int .u64 K.m.next,.pointer (some ⟨wb,0,none⟩),.pointer (some ⟨mb,0,none⟩),rv,.int .i64 ft].toArray 78)] (by kernel_rfl) rfl (by decide +kernel) (by decide +kernel) (by decide +kernel) (takePre takeD) _ rfl ?_
 refine cont_node [] [(1,[0,1],[2,3,4,5,6,7,8,9,10,11,12,13,14,15,16,17]),(8,[2,3,4,5,6,7,8],[0,1,9,10,11,12,13,14,15,16,17])] rfl (by decide +kernel) ?_
 intro x hx
 simp only[List.mem_cons,List.not_mem_nil,or_false]at hx
 rcases hx with rfl|rfl
 ·dsimp only[List.length_cons,List.length_nil]
  repeat'(first|(refine gY ?_;intros)|(refine hY ?_ ?_<;>intro hgd)|(refine jY ?_ ?_<;>intro _)|fail)
  refine clN_Y (hsrc) ?_
  rintro⟨u,hu⟩ _
  dsimp only
  repeat'(first|(refine gY ?_;intros)|(refine hY ?_ ?_<;>intro hgd)|(refine jY ?_ ?_<;>intro _)|fail)
  refine cont_node [] [(8,[2,3,4,5,6,7,8],[9,10,11,12,13,14,15,16,17])] rfl (by decide +kernel) ?_
  intro x hx
  simp only[List.mem_cons,List.not_mem_nil,or_false]at hx
  subst hx
  ·dsimp only[List.length_cons,List.length_nil]
   repeat'(first|(refine gY ?_;intros)|(refine hY ?_ ?_<;>intro hgd)|(refine jY ?_ ?_<;>intro _)|fail)
   refine cont_node [] [(9,[9],[10,11,12,13,14,15,16,17])] rfl (by decide +kernel) ?_
   intro x hx
   simp only[List.mem_cons,List.not_mem_nil,or_false]at hx
   subst hx
   ·dsimp only[List.length_cons,List.length_nil]
    repeat'(first|(refine gY ?_;intros)|(refine hY ?_ ?_<;>intro hgd)|(refine jY ?_ ?_<;>intro _)|fail)
    refine cont_node [] [(13,[10,11,12,13],[14,15,16,17])] rfl (by decide +kernel) ?_
    intro x hx
    simp only[List.mem_cons,List.not_mem_nil,or_false]at hx
    subst hx
    ·dsimp only[List.length_cons,List.length_nil]
     repeat'(first|(refine gY ?_;intros)|(refine hY ?_ ?_<;>intro hgd)|(refine jY ?_ ?_<;>intro _)|fail)
     refine clN_Y (hmg _) ?_
     rintro⟨out,⟨ov,hov⟩,e⟩ hy
     dsimp only at hy ⊢
     repeat'(first|(refine gY ?_;intros)|(refine hY ?_ ?_<;>intro hgd)|(refine jY ?_ ?_<;>intro _)|fail)
     refine cont_node0 (by decide +kernel) ?_
     repeat'(first|(refine gY ?_;intros)|(refine hY ?_ ?_<;>intro hgd)|(refine jY ?_ ?_<;>intro _)|fail)
     refine cont_map (L':=[DS,row 70 1 mv (K.m.runs.map uV),row 83 1 rv (rs.map krV),walP wb b (fileK nm walK K.m.wal.toNat) K.w,pts kb (.cells [.pointer (some ⟨b,0,none⟩),.string nm,.int .u64 K.m.wal,mv,.int .u64 K.m.next,.pointer (some ⟨wb,0,none⟩),.pointer (some ⟨mb,0,none⟩),rv,.int .i64 ft].toArray 78),row 65 3 ov (out.map prV)]++R) entD ?_
     refine cont_map (fun _ h=>by rw[← hds]at h;exact st_close hmv hwp hrv g3 h) ?_
     (refine rt_Y (y:=(out,⟨ov,hov⟩,e)) (hrs:=Tryz.results11) (hv:=?_) (hφ:=?_))
     ·rfl
     ·exact hy
 ·dsimp only[List.length_cons,List.length_nil]
  repeat'(first|(refine gY ?_;intros)|(refine hY ?_ ?_<;>intro hgd)|(refine jY ?_ ?_<;>intro _)|fail)
  refine cont_node [] [(1,[0,1],[9,10,11,12,13,14,15,16,17])] rfl (by decide +kernel) ?_
  intro x hx
  simp only[List.mem_cons,List.not_mem_nil,or_false]at hx
  subst hx
  ·dsimp only[List.length_cons,List.length_nil]
   repeat'(first|(refine gY ?_;intros)|(refine hY ?_ ?_<;>intro hgd)|(refine jY ?_ ?_<;>intro _)|fail)
   refine clN_Y (hsrc) ?_
   rintro⟨u,hu⟩ _
   dsimp only
   repeat'(first|(refine gY ?_;intros)|(refine hY ?_ ?_<;>intro hgd)|(refine jY ?_ ?_<;>intro _)|fail)
   refine cont_node [] [(9,[9],[10,11,12,13,14,15,16,17])] rfl (by decide +kernel) ?_
   intro x hx
   simp only[List.mem_cons,List.not_mem_nil,or_false]at hx
   subst hx
   ·dsimp only[List.length_cons,List.length_nil]
    repeat'(first|(refine gY ?_;intros)|(refine hY ?_ ?_<;>intro hgd)|(refine jY ?_ ?_<;>intro _)|fail)
    refine cont_node [] [(13,[10,11,12,13],[14,15,16,17])] rfl (by decide +kernel) ?_
    intro x hx
    simp only[List.mem_cons,List.not_mem_nil,or_false]at hx
    subst hx
    ·dsimp only[List.length_cons,List.length_nil]
     repeat'(first|(refine gY ?_;intros)|(refine hY ?_ ?_<;>intro hgd)|(refine jY ?_ ?_<;>intro _)|fail)
     refine clN_Y (hmg _) ?_
     rintro⟨out,⟨ov,hov⟩,e⟩ hy
     dsimp only at hy ⊢
     repeat'(first|(refine gY ?_;intros)|(refine hY ?_ ?_<;>intro hgd)|(refine jY ?_ ?_<;>intro _)|fail)
     refine cont_node0 (by decide +kernel) ?_
     repeat'(first|(refine gY ?_;intros)|(refine hY ?_ ?_<;>intro hgd)|(refine jY ?_ ?_<;>intro _)|fail)
     refine cont_map (L':=[DS,row 70 1 mv (K.m.runs.map uV),row 83 1 rv (rs.map krV),walP wb b (fileK nm walK K.m.wal.toNat) K.w,pts kb (.cells [.pointer (some ⟨b,0,none⟩),.string nm,.int .u64 K.m.wal,mv,.int .u64 K.m.next,.pointer (some ⟨wb,0,none⟩),.pointer (some ⟨mb,0,none⟩),rv,.int .i64 ft].toArray 78),row 65 3 ov (out.map prV)]++R) entD ?_
     refine cont_map (fun _ h=>by rw[← hds]at h;exact st_close hmv hwp hrv g3 h) ?_
     (refine rt_Y (y:=(out,⟨ov,hov⟩,e)) (hrs:=Tryz.results11) (hv:=?_) (hφ:=?_))
     ·rfl
     ·exact hy
end Go.Proofs.YtgbmjoenbocfcaaGreat
