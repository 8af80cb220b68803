/- Texts merged: KvY KvZ. -/
import Derived.Test.YtgbmjoenbocfcaaGreatG22
set_option linter.unusedSimpArgs false
set_option linter.unusedVariables false
set_option maxRecDepth 100000
namespace Go.Proofs.YtgbmjoenbocfcaaGreat
open Go Go.Fx Go.Proofs Go.Pl
theorem cus_open{dn rs:List Cu}{c:Cu}{L:List HProp}{h:Frag}(s:SatL (cusP (dn++c::rs)::L) h):SatL (cusP dn::pts c.cb (.cells (cuC c).toArray 148)::c.A::cusP rs::L) h:=by
 have s1:SatL ((dn++c::rs).map cuP++L) h:=SatL.flat s
 rw[List.map_append,List.append_assoc]at s1
 have s2:SatL (cusP dn::(((c::rs).map cuP)++L)) h:=SatL.unflat (M:=dn.map cuP) s1
 refine s2.consMono fun h s3=>?_
 have s4:SatL (cuP c::(rs.map cuP++L)) h:=s3
 have s5:SatL (pts c.cb (.cells (cuC c).toArray 148)::c.A::(rs.map cuP++L)) h:=SatL.flat (M:=[pts c.cb (.cells (cuC c).toArray 148),c.A]) s4
 exact s5.consMono fun h s6=>s6.consMono fun h s7=>SatL.unflat (M:=rs.map cuP) s7
theorem cus_shut{dn rs:List Cu}{c:Cu}{L:List HProp}{h:Frag}(s:SatL (cusP dn::pts c.cb (.cells (cuC c).toArray 148)::c.A::cusP rs::L) h):SatL (cusP (dn++[c]++rs)::L) h:=by
 refine SatL.unflat (M:=(dn++[c]++rs).map cuP) ?_
 rw[List.append_assoc,List.map_append,List.append_assoc]
 refine SatL.flat (M:=dn.map cuP) (s.consMono fun h s1=>?_)
 show SatL (cuP c::(rs.map cuP++L)) h
 refine SatL.unflat (M:=[pts c.cb (.cells (cuC c).toArray 148),c.A]) ?_
 exact s1.consMono fun h s2=>s2.consMono fun h s3=>SatL.flat (M:=rs.map cuP) s3
abbrev FT:=Int→BA→BA→Int→List Pr×Int
structure CuI(F:FT)(D:HProp)(c:Cu):Prop where
 vw:Vw c.A 3 c.v.1 (c.xs.map prV)
 cap:capOk c.v.1
 len:c.xs.length≤1000000
 ksz:∀ p∈c.xs,p.k.size≤1000000
 ifc:∃ t x,c.iv= .iface t x
 nxt:Nxt c.iv D (F c.yg)
 fl:∀ fr,(F c.yg fr c.to 4).1.length≤1000000∧∀ p∈(F c.yg fr c.to 4).1,p.k.size≤1000000
def stepX(F:FT)(key:BA)(c:Cu):List Pr×Int:=
 match c.xs with
 | []=>([],0)
 |p::l=>bif p.k.toList==key.toList then(match l with| []=>F c.yg (p.k++⟨#[0]⟩) c.to 4|q::l=>(q::l,0))else(p::l,0)
def coC(c:Cu):Nat×Value×BA×Int×List Pr:=(c.cb,c.iv,c.to,c.yg,c.xs)
def stC(F:FT)(key:BA)(c:Cu):Nat×Value×BA×Int×List Pr:=(c.cb,c.iv,c.to,c.yg,(stepX F key c).1)
def passE(F:FT)(key:BA)(cs:List Cu):Int:=cs.foldl (fun e c=>if e=0 then(stepX F key c).2 else e) 0
theorem passE_succ{F:FT}{key:BA}{cs:List Cu}{i:Nat}(h:i<cs.length)(h0:passE F key (cs.take i)=0):passE F key (cs.take (i+1))=(stepX F key cs[i]).2:=by
 unfold passE at h0 ⊢
 rw[List.take_succ_eq_append_getElem h,List.foldl_append,h0];rfl
theorem passE_stop{F:FT}{key:BA}:∀ (l:List Cu) (e:Int),e≠0→l.foldl (fun e c=>if e=0 then(stepX F key c).2 else e) e=e
 | [],_,_=>rfl
 |c::l,e,h=>by rw[List.foldl_cons,if_neg h];exact passE_stop l e h
theorem passE_err{F:FT}{key:BA}{cs:List Cu}{i:Nat}(h0:passE F key (cs.take i)≠0):passE F key cs=passE F key (cs.take i):=by
 conv=>lhs;rw[← List.take_append_drop i cs]
 unfold passE at h0 ⊢
 rw[List.foldl_append,passE_stop _ _ h0]
structure PasI(F:FT)(D:HProp)(key:BA)(cs dn:List Cu):Prop where
 len:dn.length≤cs.length
 map:dn.map coC=(cs.take dn.length).map (stC F key)
 all:∀ c∈dn,CuI F D c
 err:passE F key (cs.take dn.length)=0
theorem map_snoc{α β:Type}{f:α→β}{g:α→β}{cs dn:List α}{c':α}{i:Nat}(h:i<cs.length)(hd:dn.map f=(cs.take i).map g)(hc:f c'=g cs[i]):(dn++[c']).map f=(cs.take (i+1)).map g:=by
 rw[List.take_succ_eq_append_getElem h,List.map_append,List.map_append,hd,List.map_singleton,List.map_singleton,hc]
set_option maxHeartbeats 8000000 in
theorem pass_spec(m0:Nat)(lv:Value)(B D:HProp)(cs:List Cu)(key:BA)(F:FT)(hB:Vw B 1 lv (cs.map fun c=>[.pointer (some ⟨c.cb,0,none⟩)]))(hz:cs.length≤1000)(hcs:∀ c∈cs,CuI F D c):
  FSpec Tryz.prog 91 [.pointer (some ⟨m0,0,none⟩),.string key] [pts m0 (.cells [lv].toArray 143),B,cusP cs,D] (List Cu) (fun y=>(passE F key cs=0→y.map coC=cs.map (stC F key))∧∀ c∈y,CuI F D c) (fun _=>.int .i64 (passE F key cs))
   (fun y=>[pts m0 (.cells [lv].toArray 143),B,cusP y,D]):=by
 have lm:(cs.map fun c=>[Value.pointer (some ⟨c.cb,0,none⟩)]).length=cs.length:=by simp
 refine spec_intro [] _ Tryz.func91 rfl Tryz.ntmps91 (by rfl) (fun w0 R=>?_)
 refine ok_learn (VwIn.slice (VwIn.there (VwIn.here hB))) ?_
 rintro⟨pa,ca,rfl⟩
 repeat'(first|(refine gY ?_;intros)|(refine hY ?_ ?_<;>intro hgd)|(refine jY ?_ ?_<;>intro _)|fail)
 refine ok_map (L':=[pts m0 (.cells [.slice pa (cs.map fun c=>[Value.pointer (some ⟨c.cb,0,none⟩)]).length ca].toArray 143),B,cusP ([]++cs.drop 0),D]++R) entD ?_
 refine ok_loop' (γ:=List Cu) (fun dn ρ L=>PasI F D key cs dn∧Knows ρ [(1,.string key),(11,.slice pa (cs.map fun c=>[Value.pointer (some ⟨c.cb,0,none⟩)]).length ca),(12,.int .i64 ((cs.map fun c=>[Value.pointer (some ⟨c.cb,0,none⟩)]).length:Int)),(13,.int .i64 (dn.length:Int))]∧
   L=[pts m0 (.cells [.slice pa (cs.map fun c=>[Value.pointer (some ⟨c.cb,0,none⟩)]).length ca].toArray 143),B,cusP (dn++cs.drop dn.length),D]++R) (fun dn=>cs.length-dn.length) [] ⟨⟨Nat.zero_le _,rfl,(fun c h=>by cases h),rfl⟩,⟨rfl,rfl,rfl,rfl,trivial⟩,rfl⟩ ?_
 rintro dn ρ L ⟨hP,hk,rfl⟩
 refine ok_regs hk ?_
 have hi:=hP.len
 clear hk
 cases t1:decide ((dn.length:Int)<((cs.map fun c=>[Value.pointer (some ⟨c.cb,0,none⟩)]).length:Int))with
 |false=>
  have hie:dn.length=cs.length:=by have:=of_decide_eq_false t1;omega
  rw[show passE F key cs=0 by have:=hP.err;rw[hie,List.take_length]at this;exact this]
  rw[show dn++cs.drop dn.length=dn by rw[hie,List.drop_length,List.append_nil]]
  repeat'(first|(refine gY ?_;intros)|(refine hY ?_ ?_<;>intro hgd)|(refine jY ?_ ?_<;>intro _)|fail)
  (refine rt_Y (y:=dn) (hrs:=Tryz.results91) (hv:=?_) (hφ:=?_))
  ·rfl
  ·exact⟨fun _=>by have:=hP.map;rw[hie,List.take_length]at this;exact this,hP.all⟩
 |true=>
  have h0:dn.length<cs.length:=by have:=of_decide_eq_true t1;omega
  have hx:(cs.map fun c=>[Value.pointer (some ⟨c.cb,0,none⟩)])[dn.length]? =some [.pointer (some ⟨cs[dn.length].cb,0,none⟩)]:=by rw[List.getElem?_map,List.getElem?_eq_getElem h0];rfl
  have hn1:dn.length<(cs.map fun c=>[Value.pointer (some ⟨c.cb,0,none⟩)]).length:=by omega
  have hcI:=hcs _ (List.getElem_mem h0)
  have herr:(stepX F key cs[dn.length]).2≠0→passE F key cs=(stepX F key cs[dn.length]).2:=fun h=>by
   have hst:=passE_succ h0 hP.err
   rw[← hst]at h ⊢
   exact passE_err h
  have hst:(stepX F key cs[dn.length]).2=0→passE F key (cs.take (dn.length+1))=0:=fun h=>(passE_succ h0 hP.err).trans h
  have hsn:=fun c' hc=>map_snoc (f:=coC) (g:=stC F key) (c':=c') h0 hP.map hc
  rw[List.drop_eq_getElem_cons h0]
  generalize hci:cs[dn.length]=c at hx hcI hst hsn herr
  refine ok_learn (VwIn.base (n:=1) (xs:=cs.map fun c=>[Value.pointer (some ⟨c.cb,0,none⟩)]) (VwIn.there (VwIn.here hB)) (by intro e;rw[e]at hn1;simp at hn1)) ?_
  rintro⟨bu,ou,rfl⟩
  obtain⟨cb,iv,to,⟨v,hv⟩,yg,xs,Ac⟩:=c
  obtain⟨hvw,hcap,hlen,hksz,⟨ti,xi,rfl⟩,hnx,hfl⟩:=hcI
  dsimp only at hvw hcap hlen hksz hnx hfl hx
  refine ok_map (L':=[cusP (dn++⟨cb,.iface ti xi,to,⟨v,hv⟩,yg,xs,Ac⟩::cs.drop (dn.length+1)),pts m0 (.cells [.slice (some ⟨bu,ou,none⟩) (cs.map fun c=>[Value.pointer (some ⟨c.cb,0,none⟩)]).length ca].toArray 143),B,D]++R) entD ?_
  refine ok_map (fun _ h=>cus_open h) ?_
  dsimp only[cuC]
  have hshut:∀ (v':V1s) (xs':List Pr) (A':HProp) (h:Frag),SatL ([cusP dn,pts cb (.cells [.iface ti xi,.string to,v'.1,.int .i64 yg].toArray 148),A',cusP (cs.drop (dn.length+1)),pts m0 (.cells [.slice (some ⟨bu,ou,none⟩) (cs.map fun c=>[Value.pointer (some ⟨c.cb,0,none⟩)]).length ca].toArray 143),B,D]++R) h→
    SatL ([pts m0 (.cells [.slice (some ⟨bu,ou,none⟩) (cs.map fun c=>[Value.pointer (some ⟨c.cb,0,none⟩)]).length ca].toArray 143),B,cusP ((dn++[⟨cb,.iface ti xi,to,v',yg,xs',A'⟩])++cs.drop (dn++[(⟨cb,.iface ti xi,to,v',yg,xs',A'⟩:Cu)]).length),D]++R) h:=fun v' xs' A' h s=>by
   rw[show(dn++[(⟨cb,.iface ti xi,to,v',yg,xs',A'⟩:Cu)]).length=dn.length+1 by simp]
   have s1:=cus_shut (c:=⟨cb,.iface ti xi,to,v',yg,xs',A'⟩) (dn:=dn) (rs:=cs.drop (dn.length+1)) (h:=h) s
   exact(entD) _ s1
  have hI':∀ (v':V1s) (xs':List Pr) (A':HProp),CuI F D ⟨cb,.iface ti xi,to,v',yg,xs',A'⟩→∀ c∈dn++[(⟨cb,.iface ti xi,to,v',yg,xs',A'⟩:Cu)],CuI F D c:=fun v' xs' A' hc c h=>by
   rcases List.mem_append.1 h with h|h
   ·exact hP.all c h
   ·rw[List.mem_singleton.1 h];exact hc
  have hback:∀ (v':V1s) (xs':List Pr) (A':HProp),CuI F D ⟨cb,.iface ti xi,to,v',yg,xs',A'⟩→stepX F key ⟨cb,.iface ti xi,to,⟨v,hv⟩,yg,xs,Ac⟩=(xs',0)→
    PasI F D key cs (dn++[(⟨cb,.iface ti xi,to,v',yg,xs',A'⟩:Cu)]):=fun v' xs' A' hc he=>by
   have hl1:(dn++[(⟨cb,.iface ti xi,to,v',yg,xs',A'⟩:Cu)]).length=dn.length+1:=by simp
   exact⟨by rw[hl1];exact h0,by rw[hl1];exact hsn _ (by unfold coC stC;dsimp only;rw[he]),hI' v' xs' A' hc,by rw[hl1];exact hst (by rw[he])⟩
  have hlt:∀ (v':V1s) (xs':List Pr) (A':HProp),cs.length-(dn++[(⟨cb,.iface ti xi,to,v',yg,xs',A'⟩:Cu)]).length<cs.length-dn.length:=fun v' xs' A'=>by
   rw[show(dn++[(⟨cb,.iface ti xi,to,v',yg,xs',A'⟩:Cu)]).length=dn.length+1 by simp];omega
  have hwr:∀ (v':V1s) (xs':List Pr) (A':HProp),(((dn++[(⟨cb,.iface ti xi,to,v',yg,xs',A'⟩:Cu)]).length:Nat):Int)=(dn.length:Int)+1:=fun v' xs' A'=>by simp
  generalize hrest:cs.drop (dn.length+1)=rest
  rw[hrest]at hshut
  refine ok_learn (VwIn.slice (VwIn.there (VwIn.there (VwIn.here hvw)))) ?_
  rintro⟨pc,cc,rfl⟩
  cases xs with
  |nil=>
   have f0:decide ((0:Int)<((List.map prV ([]:List Pr)).length:Int))=false:=rfl
   repeat'(first|(refine gY ?_;intros)|(refine hY ?_ ?_<;>intro hgd)|(refine jY ?_ ?_<;>intro _)|fail)
   refine cont_map (fun h s=>hshut ⟨_,hv⟩ [] Ac h ((entD) _ s)) ?_
   exact cont_back _ ⟨hback _ _ _ ⟨hvw,hcap,hlen,hksz,⟨ti,xi,rfl⟩,hnx,hfl⟩ rfl,⟨rfl,rfl,rfl,by rw[hwr];rfl,trivial⟩,rfl⟩ (hlt _ _ _)
  |cons p l=>
   have hl2:((p::l).map prV).length=l.length+1:=by simp
   have hx1:((p::l).map prV)[0]? =some (prV p):=rfl
   obtain⟨pk,pv,pg⟩:=p
   dsimp only[prV]at hx1
   generalize u2:BEq.beq pk.toList key.toList=w2
   have hstx:∀ w,w2=w→stepX F key ⟨cb,.iface ti xi,to,⟨_,hv⟩,yg,⟨pk,pv,pg⟩::l,Ac⟩=(bif w then(match l with| []=>F yg (pk++⟨#[0]⟩) to 4|q::l=>(q::l,0))else(⟨pk,pv,pg⟩::l,0)):=fun w hw=>by
    unfold stepX;dsimp only;rw[u2,hw]
   cases w2 with
   |false=>
    have hb:=hback ⟨_,hv⟩ (⟨pk,pv,pg⟩::l) Ac ⟨hvw,hcap,hlen,hksz,⟨ti,xi,rfl⟩,hnx,hfl⟩ (hstx false rfl)
    have hl3:=hlt ⟨_,hv⟩ (⟨pk,pv,pg⟩::l) Ac
    have hwr3:=hwr ⟨_,hv⟩ (⟨pk,pv,pg⟩::l) Ac
    have hsh3:=hshut ⟨_,hv⟩ (⟨pk,pv,pg⟩::l) Ac
    clear hback hstx hlt hwr hshut hI' hsn
    generalize hXS:((⟨pk,pv,pg⟩:Pr)::l).map prV=XS at*
    have f0:decide ((0:Int)<(XS.length:Int))=true:=decide_eq_true (by omega)
    have hn0:0<XS.length:=by omega
    refine ok_learn (VwIn.base (n:=3) (xs:=XS) (VwIn.there (VwIn.there (VwIn.here hvw))) (by intro e;rw[e]at hl2;simp at hl2)) ?_
    rintro⟨bd,od,rfl⟩
    repeat'(first|(refine gY ?_;intros)|(refine hY ?_ ?_<;>intro hgd)|(refine jY ?_ ?_<;>intro _)|fail)
    refine cont_map (fun h s=>hsh3 h ((entD) _ s)) ?_
    exact cont_back _ ⟨hb,⟨rfl,rfl,rfl,by rw[hwr3];rfl,trivial⟩,rfl⟩ hl3
   |true=>
    cases l with
    |cons q l=>
     have hs:=step_more cb (.iface ti xi) _ to yg Ac ⟨pk,pv,pg⟩ q l rfl hvw hcap (by simp at hlen;omega)
     have hb:=fun v' h1 h2=>hback v' (q::l) Ac ⟨h1,h2,(by simp at hlen ⊢;omega),(fun p hp=>hksz p (List.mem_cons_of_mem _ hp)),⟨ti,xi,rfl⟩,hnx,hfl⟩ (hstx true rfl)
     have hl3:=fun v'=>hlt v' (q::l) Ac
     have hwr3:=fun v'=>hwr v' (q::l) Ac
     have hsh3:=fun v'=>hshut v' (q::l) Ac
     clear hback hstx hlt hwr hshut hI' hsn
     generalize hXS:((⟨pk,pv,pg⟩:Pr)::q::l).map prV=XS at*
     have f0:decide ((0:Int)<(XS.length:Int))=true:=decide_eq_true (by omega)
     have hn0:0<XS.length:=by omega
     refine ok_learn (VwIn.base (n:=3) (xs:=XS) (VwIn.there (VwIn.there (VwIn.here hvw))) (by intro e;rw[e]at hl2;simp at hl2)) ?_
     rintro⟨bd,od,rfl⟩
     repeat'(first|(refine gY ?_;intros)|(refine hY ?_ ?_<;>intro hgd)|(refine jY ?_ ?_<;>intro _)|fail)
     refine cl_Y (hs) ?_
     rintro⟨w,hw⟩ ⟨hw1,hw2⟩
     dsimp only at hw1 hw2
     repeat'(first|(refine gY ?_;intros)|(refine hY ?_ ?_<;>intro hgd)|(refine jY ?_ ?_<;>intro _)|fail)
     refine cont_map (fun h s=>hsh3 ⟨w,hw⟩ h ((entD) _ s)) ?_
     exact cont_back _ ⟨hb ⟨w,hw⟩ hw1 hw2,⟨rfl,rfl,rfl,by rw[hwr3];rfl,trivial⟩,rfl⟩ (hl3 _)
    |nil=>
     have hs:=step_fill cb (.iface ti xi) _ to yg Ac D (F yg) ti xi rfl hnx ⟨pk,pv,pg⟩ hvw hcap (hksz _ (List.mem_cons_self ..))
     have hfl1:=hfl (pk++⟨#[0]⟩)
     have hst1:=hstx true rfl
     dsimp only at hs hst1
     rw[hst1]at herr
     rw[cond_true]at hst1 herr
     generalize F yg (pk++⟨#[0]⟩) to 4=r at hs hfl1 hst1 herr
     obtain⟨xs',e⟩:=r
     dsimp only at hs hfl1 herr
     have hrI:=fun(w:V1s) (hc:capOk w.1)=>(⟨Vw.row,hc,hfl1.1,hfl1.2,⟨ti,xi,rfl⟩,hnx,hfl⟩:CuI F D ⟨cb,.iface ti xi,to,w,yg,xs',row 65 3 w.1 (xs'.map prV)⟩)
     have hsh3:=fun v'=>hshut v' xs' (row 65 3 v'.1 (xs'.map prV))
     generalize hXS:[(⟨pk,pv,pg⟩:Pr)].map prV=XS at*
     have f0:decide ((0:Int)<(XS.length:Int))=true:=decide_eq_true (by simp at hl2;omega)
     have hn0:0<XS.length:=by simp at hl2;omega
     refine ok_learn (VwIn.base (n:=3) (xs:=XS) (VwIn.there (VwIn.there (VwIn.here hvw))) (by intro e;rw[e]at hl2;simp at hl2)) ?_
     rintro⟨bd,od,rfl⟩
     by_cases he:e=0
     ·subst he
      have hb:=fun w hc=>hback w xs' (row 65 3 w.1 (xs'.map prV)) (hrI w hc) hst1
      have hl3:=fun v'=>hlt v' xs' (row 65 3 v'.1 (xs'.map prV))
      have hwr3:=fun v'=>hwr v' xs' (row 65 3 v'.1 (xs'.map prV))
      clear hback hstx hlt hwr hshut hI' hsn hst1
      repeat'(first|(refine gY ?_;intros)|(refine hY ?_ ?_<;>intro hgd)|(refine jY ?_ ?_<;>intro _)|fail)
      refine cl_Y (hs) ?_
      rintro⟨w,hw⟩ _
      dsimp only
      refine ops_learn (rowShapeS (e:=65) (n:=3) (v:=w) (xs:=xs'.map prV) (by decide) takeD) ?_
      rintro⟨px,cx,rfl,hcx,hsx⟩
      repeat'(first|(refine gY ?_;intros)|(refine hY ?_ ?_<;>intro hgd)|(refine jY ?_ ?_<;>intro _)|fail)
      refine cont_map (fun h s=>hsh3 ⟨_,hw⟩ h ((entD) _ s)) ?_
      exact cont_back _ ⟨hb ⟨_,hw⟩ ⟨_,_,_,rfl,hcx⟩,⟨rfl,rfl,rfl,by rw[hwr3];rfl,trivial⟩,rfl⟩ (hl3 _)
     ·have f2:(!decide (e=0))=true:=by simp[he]
      have hpE:=herr he
      clear hback hstx hlt hwr hshut hsn hst1
      rw[hpE]
      repeat'(first|(refine gY ?_;intros)|(refine hY ?_ ?_<;>intro hgd)|(refine jY ?_ ?_<;>intro _)|fail)
      refine cl_Y (hs) ?_
      rintro⟨w,hw⟩ _
      dsimp only
      refine ops_learn (rowShapeS (e:=65) (n:=3) (v:=w) (xs:=xs'.map prV) (by decide) takeD) ?_
      rintro⟨px,cx,rfl,hcx,hsx⟩
      repeat'(first|(refine gY ?_;intros)|(refine hY ?_ ?_<;>intro hgd)|(refine jY ?_ ?_<;>intro _)|fail)
      refine cont_map (fun h s=>hsh3 ⟨_,hw⟩ h ((entD) _ s)) ?_
      (refine rt_Y (y:=(dn++[(⟨cb,.iface ti xi,to,⟨_,hw⟩,yg,xs',row 65 3 _ (xs'.map prV)⟩:Cu)])++cs.drop (dn++[(⟨cb,.iface ti xi,to,⟨_,hw⟩,yg,xs',row 65 3 _ (xs'.map prV)⟩:Cu)]).length) (hrs:=Tryz.results91) (hv:=?_) (hφ:=?_))
      ·rfl
      ·refine⟨fun h=>absurd h he,fun c hc=>?_⟩
       rcases List.mem_append.1 hc with hc|hc
       ·exact hI' _ _ _ (hrI ⟨_,hw⟩ ⟨_,_,_,rfl,hcx⟩) c hc
       ·exact hcs c (List.mem_of_mem_drop hc)
end Go.Proofs.YtgbmjoenbocfcaaGreat
namespace Go.Proofs.YtgbmjoenbocfcaaGreat
open Go Go.Fx Go.Pl
structure SrcI(F:FT)(D:HProp)(to:BA)(BAD:Prop)(S:Nat→List Pr)(iv:Value)(j:Nat):Prop where
 ifc:∃ t x,iv= .iface t x
 nxt:Nxt iv D (F j)
 srt:Sorted (S j)
 ksz:∀ p∈S j,p.k.size≤1000000
 ans:∀ fr,F j fr to 4=(scanR (S j) fr to 4,0)∨(BAD∧(F j fr to 4).1=[]∧(F j fr to 4).2≠0)
theorem scanR_len(S:List Pr)(fr to:BA)(n:Nat):(scanR S fr to n).length≤n:=by unfold scanR;exact List.length_take_le n _
theorem scanR_mem{S:List Pr}{fr to:BA}{n:Nat}{p:Pr}(h:p∈scanR S fr to n):p∈S:=(List.mem_filter.1 (List.mem_of_mem_take h)).1
theorem SrcI.fl{F:FT}{D:HProp}{to:BA}{BAD:Prop}{S:Nat→List Pr}{iv:Value}{j:Nat}(h:SrcI F D to BAD S iv j)(fr:BA):(F j fr to 4).1.length≤1000000∧∀ p∈(F j fr to 4).1,p.k.size≤1000000:=by
 rcases h.ans fr with e|⟨_,e,_⟩
 ·rw[e]
  exact⟨by have:=scanR_len (S j) fr to 4;show(scanR (S j) fr to 4).length≤_;omega,fun p hp=>h.ksz p (scanR_mem hp)⟩
 ·rw[e]
  exact⟨by simp,fun p hp=>by cases hp⟩
structure CuJ(F:FT)(D:HProp)(to:BA)(BAD:Prop)(S R:Nat→List Pr)(j:Nat)(c:Cu):Prop where
 src:SrcI F D to BAD S c.iv j
 yg:c.yg=(j:Int)
 to_:c.to=to
 fit:FitX to (S j) c.xs (R j)
 vw:Vw c.A 3 c.v.1 (c.xs.map prV)
 cap:capOk c.v.1
 len:c.xs.length≤1000000
 ksz:∀ p∈c.xs,p.k.size≤1000000
theorem CuJ.i{F:FT}{D:HProp}{to:BA}{BAD:Prop}{S R:Nat→List Pr}{j:Nat}{c:Cu}(h:CuJ F D to BAD S R j c):CuI F D c:=
 ⟨h.vw,h.cap,h.len,h.ksz,h.src.ifc,by rw[h.yg];exact h.src.nxt,fun fr=>by rw[h.yg,h.to_];exact h.src.fl fr⟩
theorem all_snoc{P:Nat→Cu→Prop}{dn:List Cu}{c:Cu}(h:∀ j (hj:j<dn.length),P j dn[j])(hc:P dn.length c):∀ j (hj:j<(dn++[c]).length),P j (dn++[c])[j]:=fun j hj=>by
 rw[List.length_append,List.length_singleton]at hj
 by_cases h1:j<dn.length
 ·rw[List.getElem_append_left h1];exact h j h1
 ·obtain rfl:j=dn.length:=by omega
  rw[List.getElem_append_right (Nat.le_refl _)]
  simpa using hc
theorem passE_zero{F:FT}{key:BA}:∀ {cs:List Cu},passE F key cs=0→∀ c∈cs,(stepX F key c).2=0
 | [],_,c,h=>by cases h
 |c::cs,h,d,hd=>by
  unfold passE at h
  rw[List.foldl_cons,if_pos rfl]at h
  by_cases e:(stepX F key c).2=0
  ·rcases List.mem_cons.1 hd with rfl|hd
   ·exact e
   ·rw[e]at h;exact passE_zero (cs:=cs) h d hd
  ·rw[passE_stop _ _ e]at h;exact absurd h e
theorem passE_bad{F:FT}{key:BA}:∀ {cs:List Cu},passE F key cs≠0→∃ c∈cs,(stepX F key c).2≠0
 | [],h=>absurd rfl h
 |c::cs,h=>by
  unfold passE at h
  rw[List.foldl_cons,if_pos rfl]at h
  by_cases e:(stepX F key c).2=0
  ·rw[e]at h
   obtain⟨d,hd,hx⟩:=passE_bad (cs:=cs) h
   exact⟨d,List.mem_cons_of_mem _ hd,hx⟩
  ·exact⟨c,List.mem_cons_self ..,e⟩
theorem CuJ.bad{F:FT}{D:HProp}{to:BA}{BAD:Prop}{S R:Nat→List Pr}{j:Nat}{c:Cu}{key:BA}(h:CuJ F D to BAD S R j c)(hx:(stepX F key c).2≠0):BAD:=by
 unfold stepX at hx
 split at hx
 ·exact absurd rfl hx
 ·rename_i p l e
  cases e2:(p.k.toList==key.toList)with
  |false=>rw[e2]at hx;exact absurd rfl hx
  |true=>
   rw[e2,cond_true]at hx
   cases l with
   |cons q l=>exact absurd rfl hx
   |nil=>
    dsimp only at hx
    rw[h.yg,h.to_]at hx
    rcases h.src.ans (p.k++⟨#[0]⟩)with e3|⟨hb,_⟩
    ·rw[e3]at hx;exact absurd rfl hx
    ·exact hb
theorem CuJ.step{F:FT}{D:HProp}{to:BA}{BAD:Prop}{S R:Nat→List Pr}{j:Nat}{c d:Cu}{key:BA}(h:CuJ F D to BAD S R j c)(hx:(stepX F key c).2=0)(hd:coC d=stC F key c)(hI:CuI F D d):CuJ F D to BAD S (fun j=>dropK key (R j)) j d:=by
 unfold coC stC at hd
 simp only[Prod.mk.injEq]at hd
 obtain⟨_,e1,e2,e3,e4⟩:=hd
 refine⟨by rw[e1];exact h.src,by rw[e3,h.yg],by rw[e2,h.to_],?_,hI.vw,hI.cap,hI.len,hI.ksz⟩
 rw[e4]
 have hf:=h.fit
 unfold stepX at hx ⊢
 split
 ·rename_i e
  rw[e]at hf
  exact hf.none
 ·rename_i p l e
  rw[e]at hf hx
  dsimp only at hx
  cases e5:(p.k.toList==key.toList)with
  |false=>exact hf.stay e5
  |true=>
   rw[e5,cond_true]at hx
   rw[cond_true]
   have ek:=eqS_iff.1 e5
   cases l with
   |cons q l=>rw[← ek];exact hf.more
   |nil=>
    dsimp only at hx ⊢
    rw[h.yg,h.to_]at hx ⊢
    rcases h.src.ans (p.k++⟨#[0]⟩)with e6|⟨_,_,h6⟩
    ·rw[e6,← ek];exact hf.fill
    ·exact absurd hx h6
def rsL(R:Nat→List Pr)(n:Nat):List (List Pr):=(List.range n).map R
theorem rsL_mem{R:Nat→List Pr}{n:Nat}{l:List Pr}(h:l∈rsL R n):∃ j,j<n∧l=R j:=by
 obtain⟨j,hj,rfl⟩:=List.mem_map.1 h
 exact⟨j,List.mem_range.1 hj,rfl⟩
theorem heads_eq{F:FT}{D:HProp}{to:BA}{BAD:Prop}{S R:Nat→List Pr}{cs:List Cu}(h:∀ j (hj:j<cs.length),CuJ F D to BAD S R j cs[j]):(cs.map fun c=>c.xs.head?)=(rsL R cs.length).map (·.head?):=by
 refine List.ext_getElem (by simp[rsL]) fun j h1 h2=>?_
 rw[List.length_map]at h1
 rw[List.getElem_map,List.getElem_map]
 unfold rsL
 rw[List.getElem_map,List.getElem_range]
 exact(h j h1).fit.head
theorem rs_sorted{F:FT}{D:HProp}{to:BA}{BAD:Prop}{S R:Nat→List Pr}{cs:List Cu}(h:∀ j (hj:j<cs.length),CuJ F D to BAD S R j cs[j]):∀ l∈rsL R cs.length,Sorted l:=fun l hl=>by
 obtain⟨j,hj,rfl⟩:=rsL_mem hl
 exact(h j hj).fit.R_sorted
theorem least_left{F:FT}{D:HProp}{to:BA}{BAD:Prop}{S R:Nat→List Pr}{cs:List Cu}(h:∀ j (hj:j<cs.length),CuJ F D to BAD S R j cs[j]):
  (leastC cs=none→putAllB (rsL R cs.length) []=[])∧(∀ c,leastC cs=some c→c∈cs∧∃ p l,c.xs=p::l∧putAllB (rsL R cs.length) []=p::putAllB (rsL (fun j=>dropK p.k (R j)) cs.length) []):=by
 have hl:=leastC_H (cs:=cs) (fun i hi=>(h i hi).yg) cs.length (Nat.le_refl _)
 rw[List.take_length]at hl
 rw[heads_eq h]at hl
 have hs:=rs_sorted h
 refine⟨fun e=>?_,fun c e=>?_⟩
 ·rw[e]at hl
  exact mrg_end hs hl.1.symm
 ·have hne:=(hl.2 c e).1
  rw[e]at hl
  have hmem:∀ i,i≤cs.length→∀ b,leastC (cs.take i)=some b→b∈cs∧b.xs≠[]:=by
   intro i
   induction i with
   |zero=>intro _ b hb;cases hb
   |succ i ih=>
    intro hi b hb
    rw[leastC_succ hi]at hb
    exact pickC_mem (ih (by omega)) (List.getElem_mem hi) b hb
  have hm:=hmem cs.length (Nat.le_refl _) c (by rw[List.take_length];exact e)
  cases hx:c.xs with
  |nil=>exact absurd hx hne
  |cons p l=>
   refine⟨hm.1,p,l,rfl,?_⟩
   have h1:=hl.1.symm
   simp only[Option.bind_some,hx,List.head?_cons]at h1
   rw[mrg_step hs h1]
   congr 2
   unfold rsL
   rw[List.map_map];rfl
def lenR(R:Nat→List Pr)(n:Nat):Nat:=((rsL R n).map List.length).sum
theorem dropK_len(k:BA)(l:List Pr):(dropK k l).length≤l.length:=by
 cases l with
 |nil=>exact Nat.le_refl _
 |cons p l=>
  show(bif p.k.toList==k.toList then l else p::l).length≤_
  cases (p.k.toList==k.toList)<;>simp
theorem lenR_succ(R:Nat→List Pr)(n:Nat):lenR R (n+1)=lenR R n+(R n).length:=by
 unfold lenR rsL
 rw[List.range_succ,List.map_append,List.map_append,List.sum_append];simp
theorem lenR_lt{R:Nat→List Pr}{n j:Nat}{p:Pr}{l:List Pr}(hj:j<n)(h:R j=p::l):lenR (fun j=>dropK p.k (R j)) n<lenR R n:=by
 have hle:∀ m,lenR (fun j=>dropK p.k (R j)) m≤lenR R m:=fun m=>by
  induction m with
  |zero=>exact Nat.le_refl _
  |succ m ih=>
   rw[lenR_succ,lenR_succ]
   have:=dropK_len p.k (R m)
   omega
 induction n with
 |zero=>omega
 |succ n ih=>
  rw[lenR_succ,lenR_succ]
  by_cases e:j=n
  ·subst e
   have h2:(dropK p.k (R j)).length<(R j).length:=by
    rw[h]
    show(bif p.k.toList==p.k.toList then l else p::l).length<_
    rw[eqS_iff.2 rfl];simp
   have:=hle j
   omega
  ·have:=ih (by omega)
   have:=dropK_len p.k (R n)
   omega
end Go.Proofs.YtgbmjoenbocfcaaGreat
