/- Texts merged: SuJ SuK SuL SuI. -/
import Derived.Test.YtmnafjonbeihiaaGreatDoorG31
import Derived.Test.YtmnafjonbeihiaaGreatDoorG8
set_option linter.unusedSimpArgs false
set_option linter.unusedVariables false
set_option maxRecDepth 100000
namespace Go.Proofs.YtmnafjonbeihiaaGreatDoor
open Go Go.Fx Go.Proofs Go.Pl
theorem sCommitsO(xb wb rb:Nat)(vs:Value)(lv:V1s)(ls:List Cmt)(tp:Value)(hvc:vs.oneCell'=true)(hl:ls.length≤300):FSpec Tryz.prog 15 [.pointer (some ⟨xb,0,none⟩)] [sxP xb wb rb vs lv.1 tp,row 33 1 lv.1 (ls.map cmtV)] Unit (fun _=>True) (fun _=>.int .u64 (ls.length:Int)) (fun _=>[sxP xb wb rb vs lv.1 tp,row 33 1 lv.1 (ls.map cmtV)]):=by
 obtain⟨lv,hlv⟩:=lv
 dsimp only
 have lm:(ls.map cmtV).length=ls.length:=by simp
 have hw:IntKind.u64.wrap ((ls.map cmtV).length:Int)=(ls.length:Int):=by rw[lm,wrap_u64];omega
 refine spec_intro [] _ Tryz.func15 rfl Tryz.ntmps15 (by rfl) (fun w0 R=>?_)
 refine ok_learn (rowShapeS (e:=33) (n:=1) (v:=lv) (xs:=ls.map cmtV) (by decide) takeD) ?_
 rintro⟨pl,cl,rfl,_,_⟩
 repeat'(first|(refine gY ?_;intros)|(refine hY ?_ ?_<;>intro hgd)|(refine jY ?_ ?_<;>intro _)|fail)
 try rw[hw]
 (refine rt_Y (y:=()) (hrs:=Tryz.results15) (hv:=?_) (hφ:=?_))
 ·rfl
 ·trivial
set_option maxHeartbeats 32000000 in
theorem sAtO(xb wb rb:Nat)(vs:Value)(ts:List Tb)(lv:V1s)(ls:List Cmt)(tp:Value)(Ln:List (List Chg))(r:Rl)(n:Nat)(P:HProp)(hvc:vs.oneCell'=true)(htc:tp.oneCell'=true)(hU:UT P)(hsv:SV P vs ts)(hc:checkS (ts.map Tb.c)=true)(hcm:∀ x∈ls,CmtI P x)(hl:(ls.map (fun x=>x.2.map Cm.c)).take n=Ln)(hn:n≤ls.length)(hfew:ls.length≤300)(hh:hist ⟨ts.map Tb.c,[],0⟩ Ln=some r):
  FSpec Tryz.prog 10 [.pointer (some ⟨xb,0,none⟩),.int .u64 (n:Int)] [sxP xb wb rb vs lv.1 tp,row 33 1 lv.1 (ls.map cmtV),P] (Nat×HProp) (fun y=>Ext P y.2) (fun y=>.tuple #[.pointer (some ⟨y.1,0,none⟩),.int .i64 0])
   (fun y=>[sxP xb wb rb vs lv.1 tp,row 33 1 lv.1 (ls.map cmtV),relP y.2 y.1 r,y.2]):=by
 have hCm:=sCommitsO xb wb rb vs lv ls tp hvc hfew
 obtain⟨lv,hlv⟩:=lv
 dsimp only at hCm ⊢
 have hNew:=relNew_spec vs ts P hsv hc
 have hok0:Rl.Ok ⟨ts.map Tb.c,[],0⟩:=Rl.Ok.new hc
 obtain⟨r0,hr0⟩:∃ r0:Rl,r0=⟨ts.map Tb.c,[],0⟩:=⟨_,rfl⟩
 have hr0s:r0.s=ts.map Tb.c:=by rw[hr0]
 rw[← hr0]at hh hok0 hNew
 have hLl:Ln.length=n:=by rw[← hl,List.length_take,List.length_map];omega
 have lm:(ls.map cmtV).length=ls.length:=by simp
 have hgt:decide ((n:Int)>(ls.length:Int))=false:=decide_eq_false (by omega)
 refine spec_intro [] _ Tryz.func10 rfl Tryz.ntmps10 (by rfl) (fun w0 R=>?_)
 repeat'(first|(refine gY ?_;intros)|(refine hY ?_ ?_<;>intro hgd)|(refine jY ?_ ?_<;>intro _)|fail)
 refine cl_Y (hCm) ?_
 intro _ _
 repeat'(first|(refine gY ?_;intros)|(refine hY ?_ ?_<;>intro hgd)|(refine jY ?_ ?_<;>intro _)|fail)
 refine cl_Y (hNew) ?_
 rintro⟨rn,P1⟩ hE1
 dsimp only at hE1 ⊢
 repeat'(first|(refine gY ?_;intros)|(refine hY ?_ ?_<;>intro hgd)|(refine jY ?_ ?_<;>intro _)|fail)
 refine cl_Y (doer_spec rn vs hvc) ?_
 rintro⟨d1,d2⟩ _
 dsimp only
 refine ops_learn (rowShape (e:=33) (n:=1) (v:=lv) (xs:=ls.map cmtV) (by decide) takeD) ?_
 intro hsh
 obtain⟨pl,cl,rfl,hcl,hsp⟩:∃ p c,lv= .slice p (ls.map cmtV).length c∧(ls.map cmtV).length≤c∧(∀ q,p=some q→q.spot=none∧q.off=0):=by
  rcases hsh with⟨rfl,h⟩|⟨g,c,rfl,h⟩
  ·exact⟨none,0,by rw[h];rfl,by rw[h];simp,fun q e=>by cases e⟩
  ·exact⟨_,c,rfl,h,fun q e=>by cases e;exact⟨rfl,rfl⟩⟩
 have hpn:0<ls.length→∃ g,pl=some ⟨g,0,none⟩:=fun h=>by
  rcases hsh with⟨e,h1⟩|⟨g,c,e,_⟩
  ·rw[h1]at lm;simp at lm;omega
  ·cases e;exact⟨g,rfl⟩
 clear hsh
 repeat'(first|(refine gY ?_;intros)|(refine hY ?_ ?_<;>intro hgd)|(refine jY ?_ ?_<;>intro _)|fail)
 refine ops_run (a_slice_view (m:=n) rfl rfl rfl (by omega) (fun q e=>(hsp q e).1) rfl ?_)
 repeat'(first|(refine gY ?_;intros)|(refine hY ?_ ?_<;>intro hgd)|(refine jY ?_ ?_<;>intro _)|fail)
 refine ok_map (L':=[pts xb (.cells [vs,.pointer (some ⟨wb,0,none⟩),.slice pl (ls.map cmtV).length cl,.pointer (some ⟨rb,0,none⟩),tp].toArray 99),row 33 1 (.slice pl (ls.map cmtV).length cl) (ls.map cmtV),relP P1 rn r0,P1,pts d1 (.cells [vs].toArray 29),pts d2 (.cells [.pointer (some ⟨rn,0,none⟩)].toArray 37)]++R) entD ?_
 refine ok_loop' (γ:=Nat×Rl×HProp) (fun g ρ L=>g.1≤n∧hist r0 (Ln.take g.1)=some g.2.1∧Ext P1 g.2.2∧
   Knows ρ [(6,.pointer (some ⟨rn,0,none⟩)),(7,.int .i64 0),(8,.func (.func 89) #[] [.pointer (some ⟨d1,0,none⟩),.pointer (some ⟨d2,0,none⟩)].toArray),(38,.slice pl n cl),(39,.int .i64 (n:Int)),(40,.int .i64 (g.1:Int))]∧
   L=[pts xb (.cells [vs,.pointer (some ⟨wb,0,none⟩),.slice pl (ls.map cmtV).length cl,.pointer (some ⟨rb,0,none⟩),tp].toArray 99),row 33 1 (.slice pl (ls.map cmtV).length cl) (ls.map cmtV),relP g.2.2 rn g.2.1,g.2.2,pts d1 (.cells [vs].toArray 29),pts d2 (.cells [.pointer (some ⟨rn,0,none⟩)].toArray 37)]++R)
  (fun g=>n-g.1) (0,r0,P1) ⟨Nat.zero_le _,rfl,.refl _,⟨rfl,rfl,rfl,rfl,rfl,rfl,trivial⟩,rfl⟩ ?_
 rintro⟨k,rk,Pk⟩ ρ L ⟨hk0,hk3,hE,hk,rfl⟩
 dsimp only at hk0 hk3 hE hk ⊢
 refine ok_regs hk ?_
 obtain⟨hrk,hrks⟩:=hist_ok hok0 hk3
 cases t3:decide ((k:Int)<(n:Int))with
 |false=>
  have hke:k=n:=by have:=of_decide_eq_false t3;omega
  have hfin:rk=r:=by
   rw[hke,← hLl,List.take_length,hh]at hk3
   exact(Option.some.inj hk3).symm
  subst hfin
  repeat'(first|(refine gY ?_;intros)|(refine hY ?_ ?_<;>intro hgd)|(refine jY ?_ ?_<;>intro _)|fail)
  (refine rt_Y (y:=(rn,Pk)) (hrs:=Tryz.results10) (hv:=?_) (hφ:=?_))
  ·rfl
  ·exact hE1.trans hE
 |true=>
  have h:k<n:=by have:=of_decide_eq_true t3;omega
  obtain⟨gb,rfl⟩:=hpn (by omega)
  obtain⟨x,hxk⟩:∃ x,ls[k]? =some x:=⟨_,List.getElem?_eq_getElem (by omega)⟩
  have hIx:=(hcm x (List.mem_of_getElem? hxk)).ext (hE1.trans hE)
  obtain⟨⟨xv,hxv⟩,cs⟩:=x
  obtain⟨hvw,hch,hc199⟩:=hIx
  dsimp only at hvw hch hc199
  have hlk:Ln[k]? =some (cs.map Cm.c):=by rw[← hl,List.getElem?_take_of_lt h,List.getElem?_map,hxk];rfl
  obtain⟨r2,hd2,hw2,hn2⟩:=hist_step hh hlk hk3
  obtain⟨hN1,hN2⟩:=dones_N hd2
  have hx:(ls.map cmtV)[k]? =some [xv]:=by rw[List.getElem?_map,hxk];rfl
  have hkm:k<(ls.map cmtV).length:=by omega
  have lcs:(cs.map cmV).length=cs.length:=by simp
  refine ok_learn (VwIn.slice (VwIn.there (VwIn.there (VwIn.there (VwIn.here hvw))))) ?_
  rintro⟨px,cx,rfl⟩
  clear hlk hh hk3
  repeat'(first|(refine gY ?_;intros)|(refine hY ?_ ?_<;>intro hgd)|(refine jY ?_ ?_<;>intro _)|fail)
  refine ok_map (L':=[pts xb (.cells [vs,.pointer (some ⟨wb,0,none⟩),.slice (some ⟨gb,0,none⟩) (ls.map cmtV).length cl,.pointer (some ⟨rb,0,none⟩),tp].toArray 99),row 33 1 (.slice (some ⟨gb,0,none⟩) (ls.map cmtV).length cl) (ls.map cmtV),relP Pk rn rk,Pk,pts d1 (.cells [vs].toArray 29),pts d2 (.cells [.pointer (some ⟨rn,0,none⟩)].toArray 37)]++R) entD ?_
  refine ok_loop' (γ:=Nat×HProp) (fun g ρ L=>g.1≤cs.length∧Ext Pk g.2∧
    Knows ρ [(6,.pointer (some ⟨rn,0,none⟩)),(7,.int .i64 0),(8,.func (.func 89) #[] [.pointer (some ⟨d1,0,none⟩),.pointer (some ⟨d2,0,none⟩)].toArray),(38,.slice (some ⟨gb,0,none⟩) n cl),(39,.int .i64 (n:Int)),(40,.int .i64 (k:Int)),(44,.slice px (cs.map cmV).length cx),(45,.int .i64 ((cs.map cmV).length:Int)),(46,.int .i64 (g.1:Int))]∧
    L=[pts xb (.cells [vs,.pointer (some ⟨wb,0,none⟩),.slice (some ⟨gb,0,none⟩) (ls.map cmtV).length cl,.pointer (some ⟨rb,0,none⟩),tp].toArray 99),row 33 1 (.slice (some ⟨gb,0,none⟩) (ls.map cmtV).length cl) (ls.map cmtV),relP g.2 rn (doneN rk ((cs.map Cm.c).take g.1)),g.2,pts d1 (.cells [vs].toArray 29),pts d2 (.cells [.pointer (some ⟨rn,0,none⟩)].toArray 37)]++R)
   (fun g=>cs.length-g.1) (0,Pk) ⟨Nat.zero_le _,.refl _,⟨rfl,rfl,rfl,rfl,rfl,rfl,rfl,rfl,rfl,trivial⟩,rfl⟩ ?_
  rintro⟨j,Pj⟩ ρ L ⟨hj0,hEj,hj,rfl⟩
  dsimp only at hj0 hEj hj ⊢
  refine ok_regs hj ?_
  cases t4:decide ((j:Int)<((cs.map cmV).length:Int))with
  |false=>
   have hje:j=cs.length:=by have:=of_decide_eq_false t4;omega
   have hrj:doneN rk ((cs.map Cm.c).take j)=r2:=by rw[hje,show cs.length=(cs.map Cm.c).length by simp,List.take_length];exact hN1
   rw[hrj]
   repeat'(first|(refine gY ?_;intros)|(refine hY ?_ ?_<;>intro hgd)|(refine jY ?_ ?_<;>intro _)|fail)
   refine cont_map (L':=[pts xb (.cells [vs,.pointer (some ⟨wb,0,none⟩),.slice (some ⟨gb,0,none⟩) (ls.map cmtV).length cl,.pointer (some ⟨rb,0,none⟩),tp].toArray 99),row 33 1 (.slice (some ⟨gb,0,none⟩) (ls.map cmtV).length cl) (ls.map cmtV),relP Pj rn r2,Pj,pts d1 (.cells [vs].toArray 29),pts d2 (.cells [.pointer (some ⟨rn,0,none⟩)].toArray 37)]++R) entD ?_
   exact cont_back (k+1,r2,Pj) ⟨h,hn2,hE.trans hEj,⟨rfl,rfl,rfl,rfl,rfl,rfl,trivial⟩,rfl⟩ (by dsimp only;omega)
  |true=>
   have hjl:j<cs.length:=by have:=of_decide_eq_true t4;omega
   obtain⟨c,hcj⟩:∃ c,cs[j]? =some c:=⟨_,List.getElem?_eq_getElem hjl⟩
   have hI:=(hch c (List.mem_of_getElem? hcj)).1.ext hEj
   have hvwj:=hEj.vw hvw
   have hxc:(cs.map cmV)[j]? =some (cmV c):=by rw[List.getElem?_map,hcj];rfl
   have hjm:j<(cs.map cmV).length:=by omega
   have hds:=doneN_succ rk (l:=cs.map Cm.c) (k:=j) (c:=c.c) (by rw[List.getElem?_map,hcj];rfl)
   have hE3:=hE1.trans (hE.trans hEj)
   have hdo:=doer1_spec d1 d2 rn (doneN rk ((cs.map Cm.c).take j)) vs ts c Pj (doneN_ok hrk _) (hU.ext hE3) (hsv.ext hE3) (by rw[doneN_s,hrks,hr0s]) hvc hI
   rw[← hds]at hdo
   have hb':Vw Pj 4 c.bv.1 (c.bef.map valV):=hI.r.bv
   have ha':Vw Pj 4 c.av.1 (c.aft.map valV):=hI.r.av
   generalize (doneC (doneN rk ((cs.map Cm.c).take j)) c.c).2=ans at hdo
   generalize hr3:doneN rk ((cs.map Cm.c).take (j+1))=r3 at hdo
   generalize hr4:doneN rk ((cs.map Cm.c).take j)=r4 at hdo ⊢
   have hv:=vspec_func (args:=[.agg (cmV c).toArray]) (cap:=[.pointer (some ⟨d1,0,none⟩),.pointer (some ⟨d2,0,none⟩)]) hdo
   clear hdo hI hch
   obtain⟨ck,ct,⟨bv,hbv⟩,bef,⟨av,hav⟩,aft⟩:=c
   dsimp only[cmV]at hv hb' ha' hxc ⊢
   refine ok_learn (VwIn.base (n:=4) (p:=px) (len:=(cs.map cmV).length) (cap:=cx) (xs:=cs.map cmV) (VwIn.there (VwIn.there (VwIn.there (VwIn.here hvwj)))) (by intro e;rw[e]at hjm;simp at hjm)) ?_
   rintro⟨bd,od,rfl⟩
   refine ok_learn (VwIn.slice (VwIn.there (VwIn.there (VwIn.there (VwIn.here hb'))))) ?_
   rintro⟨pb',cb',rfl⟩
   refine ok_learn (VwIn.slice (VwIn.there (VwIn.there (VwIn.there (VwIn.here ha'))))) ?_
   rintro⟨pa',ca',rfl⟩
   repeat'(first|(refine gY ?_;intros)|(refine hY ?_ ?_<;>intro hgd)|(refine jY ?_ ?_<;>intro _)|fail)
   refine clV_Y (hv) ?_
   intro P' hE'
   repeat'(first|(refine gY ?_;intros)|(refine hY ?_ ?_<;>intro hgd)|(refine jY ?_ ?_<;>intro _)|fail)
   refine cont_map (L':=[pts xb (.cells [vs,.pointer (some ⟨wb,0,none⟩),.slice (some ⟨gb,0,none⟩) (ls.map cmtV).length cl,.pointer (some ⟨rb,0,none⟩),tp].toArray 99),row 33 1 (.slice (some ⟨gb,0,none⟩) (ls.map cmtV).length cl) (ls.map cmtV),relP P' rn r3,P',pts d1 (.cells [vs].toArray 29),pts d2 (.cells [.pointer (some ⟨rn,0,none⟩)].toArray 37)]++R) entD ?_
   exact cont_back (j+1,P') ⟨hjl,hEj.trans hE',⟨rfl,rfl,rfl,rfl,rfl,rfl,rfl,rfl,rfl,trivial⟩,by dsimp only;rw[hr3]⟩ (by dsimp only;omega)
def opRow(y:V1s×Bool)(l:List Vl):HProp:=bif y.2 then row 93 4 y.1.1 (l.map valV)else empS
theorem srP_ext{P P':HProp}(a:Ext P P'){xb b:Nat}{S:Src}{L:List HProp}{h:Frag}(s:SatL (srP P xb b S::L) h):SatL (srP P' xb b S::L) h:=by
 refine SatL.headMono s fun h1 hh=>?_
 obtain⟨y,hy⟩:=hh
 refine⟨⟨y.1,y.2.ext a⟩,?_⟩
 unfold srL at hy ⊢
 refine SatL.consMono hy fun _ s=>SatL.consMono s fun _ s=>SatL.consMono s fun _ s=>?_
 have s1:=relP_ext a s
 refine SatL.consMono s1 fun _ s=>?_
 dsimp only at s ⊢
 cases ht:S.t with
 |none=>rw[ht]at s;exact s
 |some x=>rw[ht]at s;exact txP_ext a s
theorem num17_spec(n:Int):FSpec Tryz.prog 42 [.int .i64 n] [] Unit (fun _=>True) (fun _=>.agg (valV ⟨2,n,0,⟨#[]⟩⟩).toArray) (fun _=>[]):=by
 refine spec_intro [] _ Tryz.func42 rfl Tryz.ntmps42 (by rfl) (fun w0 R=>?_)
 repeat'(first|(refine gY ?_;intros)|(refine hY ?_ ?_<;>intro hgd)|(refine jY ?_ ?_<;>intro _)|fail)
 (refine rt_Y (y:=()) (hrs:=Tryz.results42) (hv:=?_) (hφ:=?_))
 ·rfl
 ·trivial
set_option maxHeartbeats 32000000 in
theorem alive17_spec(A:HProp)(hA:UT A):FSpec Tryz.prog 8 [] [A] HProp (fun P'=>Ext A P') (fun _=>.bool true) (fun P'=>[P']):=by
 have hn:=new_spec 16384 (by decide) (by decide)
 have hO0:∀ (b:Nat) (vs:Value) (ts:List Tb) (P:HProp) (hvc:vs.oneCell'=true) (hU:UT P) (hsv:SV P vs ts) (hm:ts.map Tb.c=twoS),FSpec Tryz.prog 22 [.pointer (some ⟨b,0,none⟩),.agg #[vs]] [diskP b (newD 16384),P] (Nat×HProp) (fun y=>Ext P y.2) (fun y=>.tuple #[.pointer (some ⟨y.1,0,none⟩),.int .i64 0]) (fun y=>[srP y.2 y.1 b sS0,diskP b sV1.2.1,y.2]):=fun b vs ts P hvc hU hsv hm=>by
  have h:=sOpen_new b (newD 16384) sV1.2.1 sV1.1 vs ts P hvc hU hsv (by rw[hm];exact two_ok) (.new (by decide) (by decide)) (by simp[newD]) sV0_w sV0_g.ok (by show sV0.loose.length≤_;rw[sV0_g.loose];simp) (by rw[hm];exact Prod.ext rfl (Prod.ext rfl sV1_e))
  rw[hm]at h
  exact h
 obtain⟨l8,r8,d8,hW8,hH8,hd8,hl8⟩:=sO8
 have hO8:=fun(b:Nat) (vs:Value) (ts:List Tb) (P:HProp) (hvc:vs.oneCell'=true) (hU:UT P) (hsv:SV P vs ts) (hm:ts.map Tb.c=twoS)=>sOpen_again b sC6.2.1 d8 (lenT [putSB twoS,recB 1 l8]) vs ts P [l8] r8 hvc hU hsv (by rw[hm];exact two_ok) hd8 (by rw[hl8];simp) (by rw[hm];exact hH8) (by rw[hm];exact hW8)
 have hB0:=fun xb b P=>sBegin_spec xb b sS0 P
 have hD1:=fun xb b (u:Value) (P:HProp) (hU:UT P) (hw:Vw P 4 u (alO1.row.map valV)) (hc:u.oneCell'=true)=>sDo_spec xb b sS1 alO1 u P (sS0_h.begin).i hU hw hc alO1_row.2 alO1_row.1
 have hC3:=fun xb b P (hU:UT P)=>sCommit_spec xb b sS2 sV1.2.1 P sS2_h.i hU sV1_g.ok (by rw[sV1_g.loose];simp) (by rw[sS2_w];exact sV1_g.wok (by have:=putSB_size two_ok;simp[lenT];omega))
 obtain⟨l3,hl3,hh3,hg3⟩:=sC3_g
 have hB4:=fun xb b P=>sBegin_spec xb b sC3.1 P
 have hw7:∀ v∈alO7.row,v.wf:=fun v hv=>by
  simp only[alO7,List.mem_cons,List.not_mem_nil,or_false]at hv
  rcases hv with rfl|rfl<;>exact nV_wf (by decide) (by decide)
 have hD5:=fun xb b (u:Value) (P:HProp) (hU:UT P) (hw:Vw P 4 u (alO7.row.map valV)) (hc:u.oneCell'=true)=>sDo_spec xb b sS4 alO7 u P hh3.begin.i hU hw hc hw7 (by decide)
 have hz3:([putSB twoS,recB 1 l3]:List BA).length≤1000000000∧lenT [putSB twoS,recB 1 l3]≤1000000000:=by
  have h1:=putSB_size two_ok
  have hcc:=hh3.h.ch l3 (by rw[hl3];simp)
  have h2:(recB 1 l3).size≤2+1652*l3.length:=recT_le hcc.2 (by omega) _ (Nat.le_refl _)
  refine⟨by simp,?_⟩
  simp[lenT]
  omega
 have hC6:=fun xb b P (hU:UT P)=>sCommit_spec xb b sS5 sC3.2.1 P sS5_h.i hU hg3.ok (by rw[hg3.loose];simp) (by rw[sS5_w];exact hg3.wok hz3)
 obtain⟨l6,hl6,hh6,hg6⟩:=sC6_g
 have hz6:([putSB twoS,recB 1 l6]:List BA).length≤1000000000∧lenT [putSB twoS,recB 1 l6]≤1000000000:=by
  have h1:=putSB_size two_ok
  have hcc:=hh6.h.ch l6 (by rw[hl6];simp)
  have h2:(recB 1 l6).size≤2+1652*l6.length:=recT_le hcc.2 (by omega) _ (Nat.le_refl _)
  refine⟨by simp,?_⟩
  simp[lenT]
  omega
 have hC7:=fun xb b P (hU:UT P)=>sCommit_spec xb b sC6.1 sC6.2.1 P hh6.i hU hg6.ok (by rw[hg6.loose];simp) (hg6.wok hz6)
 rw[sS1_e]at hB0
 rw[sS2_e]at hD1
 rw[show sS2.commitS sV1.2.1=sC3 from rfl,sC3_n,sC3_e]at hC3
 rw[sS4_e]at hB4
 rw[sS5_e]at hD5
 rw[show sS5.commitS sC3.2.1=sC6 from rfl,sC6_e]at hC6
 rw[show sC6.1.commitS sC6.2.1=sC7 from rfl,sC7_is]at hC7
 dsimp only at hC7
 have hN9:=fun xb b (S:Src) (P:HProp) (hl:S.l.length=1)=>sCommits_spec xb b S P (by omega)
 have hB0':∀ xb b P,FSpec Tryz.prog 12 [.pointer (some ⟨xb,0,none⟩)] [srP P xb b sS0] Unit (fun _=>True) (fun _=>.int .i64 0) (fun _=>[srP P xb b sS1]):=hB0
 have hD1':∀ xb b (u:Value) (P:HProp) (hU:UT P) (hw:Vw P 4 u ([nV 1].map valV)) (hc:u.oneCell'=true),FSpec Tryz.prog 13 [.pointer (some ⟨xb,0,none⟩),.agg #[.int .u8 1,.int .i64 0,u]] [srP P xb b sS1,P] HProp (fun P'=>Ext P P') (fun _=>.int .i64 0) (fun P'=>[srP P' xb b sS2,P']):=hD1
 have hB4':∀ xb b P,FSpec Tryz.prog 12 [.pointer (some ⟨xb,0,none⟩)] [srP P xb b sC3.1] Unit (fun _=>True) (fun _=>.int .i64 0) (fun _=>[srP P xb b sS4]):=hB4
 have hD5':∀ xb b (u:Value) (P:HProp) (hU:UT P) (hw:Vw P 4 u ([nV 2,nV 7].map valV)) (hc:u.oneCell'=true),FSpec Tryz.prog 13 [.pointer (some ⟨xb,0,none⟩),.agg #[.int .u8 1,.int .i64 1,u]] [srP P xb b sS4,P] HProp (fun P'=>Ext P P') (fun _=>.int .i64 0) (fun P'=>[srP P' xb b sS5,P']):=hD5
 clear hB0 hD1 hB4 hD5 hz3 hz6 hg3 hg6 hh3 hh6 hd8 hl8 hW8 hH8 hl3 hl6 hw7
 generalize sS0=s0 at hO0 hB0'
 generalize sS1=s1 at hB0' hD1'
 generalize sS2=s2 at hD1' hC3
 generalize sV1.2.1=d1 at hO0 hC3
 generalize newD 16384=d0 at hn hO0
 generalize sS4=s4 at hB4' hD5'
 generalize sS5=s5 at hD5' hC6
 generalize sC3.1=s3 at hC3 hB4'
 generalize sC3.2.1=d3 at hC3 hC6
 generalize sC6.1=s6 at hC6 hC7
 generalize sC6.2.1=d6 at hC6 hC7 hO8
 generalize sC6.2.2.1=n6 at hC6
 have e1:(!decide ((0:Int)=0))=false:=rfl
 have e2:decide (((1:Nat):Int)=1)=true:=rfl
 have e3:decide ((([l8]:List (List Chg)).length:Int)=1)=true:=rfl
 refine spec_intro [] _ Tryz.func8 rfl Tryz.ntmps8 (by rfl) (fun w0 R=>?_)
 repeat'(first|(refine gY ?_;intros)|(refine hY ?_ ?_<;>intro hgd)|(refine jY ?_ ?_<;>intro _)|fail)
 refine cl_Y (hn) ?_
 intro b _
 repeat'(first|(refine gY ?_;intros)|(refine hY ?_ ?_<;>intro hgd)|(refine jY ?_ ?_<;>intro _)|fail)
 refine cl_Y (two_spec) ?_
 rintro⟨⟨v,hv⟩,tk,P0⟩ ⟨hsv0,hmc⟩
 dsimp only at hsv0 hmc ⊢
 refine ops_pool P0 A takeD ?_
 intro P hEA hE0
 have hsv:SV P v tk:=hsv0.ext hE0
 have hU:UT P:=hA.ext hEA
 clear hE0 hsv0
 repeat'(first|(refine gY ?_;intros)|(refine hY ?_ ?_<;>intro hgd)|(refine jY ?_ ?_<;>intro _)|fail)
 refine cl_Y (hO0 b v tk P hv hU hsv hmc) ?_
 rintro⟨xb,P1⟩ hE1
 dsimp only at hE1 ⊢
 repeat'(first|(refine gY ?_;intros)|(refine hY ?_ ?_<;>intro hgd)|(refine jY ?_ ?_<;>intro _)|fail)
 refine cl_Y (hB0' xb b P1) ?_
 intro _ _
 repeat'(first|(refine gY ?_;intros)|(refine hY ?_ ?_<;>intro hgd)|(refine jY ?_ ?_<;>intro _)|fail)
 refine cl_Y (num17_spec 1) ?_
 intro _ _
 repeat'(first|(refine gY ?_;intros)|(refine hY ?_ ?_<;>intro hgd)|(refine jY ?_ ?_<;>intro _)|fail)
 rename_i w hw
 refine ops_poolN (ty:=93) (n:=4) (v:=w) (xs:=[nV 1].map valV) (P:=P1) takeD ?_
 intro P2 hE2 hv2
 refine opsL_mapL (fun _ h=>srP_ext hE2 (xb:=xb) (b:=b) (S:=s1) (Take.out1 (A:=srP P1 xb b s1) takeD h)) ?_
 refine ops_learn (VwIn.slice (VwIn.there (VwIn.here hv2))) ?_
 rintro⟨pw,cw,rfl⟩
 have hU2:=hU.ext (hE1.trans hE2)
 repeat'(first|(refine gY ?_;intros)|(refine hY ?_ ?_<;>intro hgd)|(refine jY ?_ ?_<;>intro _)|fail)
 refine cl_Y (hD1' xb b _ P2 hU2 hv2 hw) ?_
 intro P3 hE3
 have hU3:=hU2.ext hE3
 repeat'(first|(refine gY ?_;intros)|(refine hY ?_ ?_<;>intro hgd)|(refine jY ?_ ?_<;>intro _)|fail)
 refine cl_Y (hC3 xb b P3 hU3) ?_
 intro P4 hE4
 have hU4:=hU3.ext hE4
 repeat'(first|(refine gY ?_;intros)|(refine hY ?_ ?_<;>intro hgd)|(refine jY ?_ ?_<;>intro _)|fail)
 refine cl_Y (hB4' xb b P4) ?_
 intro _ _
 repeat'(first|(refine gY ?_;intros)|(refine hY ?_ ?_<;>intro hgd)|(refine jY ?_ ?_<;>intro _)|fail)
 refine cl_Y (num17_spec 2) ?_
 intro _ _
 repeat'(first|(refine gY ?_;intros)|(refine hY ?_ ?_<;>intro hgd)|(refine jY ?_ ?_<;>intro _)|fail)
 refine cl_Y (num17_spec 7) ?_
 intro _ _
 repeat'(first|(refine gY ?_;intros)|(refine hY ?_ ?_<;>intro hgd)|(refine jY ?_ ?_<;>intro _)|fail)
 rename_i w' hw'
 refine ops_poolN (ty:=93) (n:=4) (v:=w') (xs:=[nV 2,nV 7].map valV) (P:=P4) takeD ?_
 intro P5 hE5 hv5
 refine opsL_mapL (fun _ h=>srP_ext hE5 (xb:=xb) (b:=b) (S:=s4) (Take.out1 (A:=srP P4 xb b s4) takeD h)) ?_
 refine ops_learn (VwIn.slice (VwIn.there (VwIn.here hv5))) ?_
 rintro⟨pw',cw',rfl⟩
 have hU5:=hU4.ext hE5
 repeat'(first|(refine gY ?_;intros)|(refine hY ?_ ?_<;>intro hgd)|(refine jY ?_ ?_<;>intro _)|fail)
 refine cl_Y (hD5' xb b _ P5 hU5 hv5 hw') ?_
 intro P6 hE6
 have hU6:=hU5.ext hE6
 repeat'(first|(refine gY ?_;intros)|(refine hY ?_ ?_<;>intro hgd)|(refine jY ?_ ?_<;>intro _)|fail)
 refine cl_Y (hC6 xb b P6 hU6) ?_
 intro P7 hE7
 have hU7:=hU6.ext hE7
 repeat'(first|(refine gY ?_;intros)|(refine hY ?_ ?_<;>intro hgd)|(refine jY ?_ ?_<;>intro _)|fail)
 refine cl_Y (hC7 xb b P7 hU7) ?_
 intro P8 hE8
 have hU8:=hU7.ext hE8
 repeat'(first|(refine gY ?_;intros)|(refine hY ?_ ?_<;>intro hgd)|(refine jY ?_ ?_<;>intro _)|fail)
 refine cl_Y (two_spec) ?_
 rintro⟨⟨v',hv'⟩,tk',P0'⟩ ⟨hsv0',hmc'⟩
 dsimp only at hsv0' hmc' ⊢
 refine ops_pool P0' P8 takeD ?_
 intro P9 hE9 hE0'
 have hsv':SV P9 v' tk':=hsv0'.ext hE0'
 have hU9:=hU8.ext hE9
 clear hE0' hsv0'
 repeat'(first|(refine gY ?_;intros)|(refine hY ?_ ?_<;>intro hgd)|(refine jY ?_ ?_<;>intro _)|fail)
 refine cl_Y (hO8 b v' tk' P9 hv' hU9 hsv' hmc') ?_
 rintro⟨xb',P10⟩ hE10
 dsimp only at hE10 ⊢
 repeat'(first|(refine gY ?_;intros)|(refine hY ?_ ?_<;>intro hgd)|(refine jY ?_ ?_<;>intro _)|fail)
 refine cl_Y (sOpen_nil (.slice none 0 0) rfl) ?_
 intro _ _
 repeat'(first|(refine gY ?_;intros)|(refine hY ?_ ?_<;>intro hgd)|(refine jY ?_ ?_<;>intro _)|fail)
 refine cl_Y (sCommits_spec xb' b ⟨r8,[l8],none,⟨((([l8]:List (List Chg)).length+1:Nat):Int),((lenT [putSB twoS,recB 1 l8]:Nat):Int),0⟩⟩ P10 (by show([l8]:List (List Chg)).length≤300;simp)) ?_
 intro _ _
 repeat'(first|(refine gY ?_;intros)|(refine hY ?_ ?_<;>intro hgd)|(refine jY ?_ ?_<;>intro _)|fail)
 (refine rt_Y (y:=P10) (hrs:=Tryz.results8) (hv:=?_) (hφ:=?_))
 ·rfl
 ·exact hEA.trans (hE1.trans (hE2.trans (hE3.trans (hE4.trans (hE5.trans (hE6.trans (hE7.trans (hE8.trans (hE9.trans hE10)))))))))
end Go.Proofs.YtmnafjonbeihiaaGreatDoor
