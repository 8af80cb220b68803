/- Texts merged: SuE SuF SuG SuH. -/
import Derived.Test.YtmnafjonbeihiaaGreatDoorG26
import Derived.Test.YtmnafjonbeihiaaGreatDoorG29
import Derived.Test.YtmnafjonbeihiaaGreatDoorK9
import Derived.Test.YtmnafjonbeihiaaGreatDoorK7
import Derived.Test.YtmnafjonbeihiaaGreatDoorG30
import Derived.Test.YtmnafjonbeihiaaGreatDoorG8
set_option linter.unusedSimpArgs false
set_option linter.unusedVariables false
set_option maxRecDepth 100000
namespace Go.Pl
open Go
def recsB:Nat→List (List Chg)→List BA
 |_,[]=>[]
 |n,l::ls=>recB n l::recsB (n+1) ls
theorem recsB_len:∀ (n:Nat) (ls:List (List Chg)),(recsB n ls).length=ls.length
 |_,[]=>rfl
 |n,l::ls=>by rw[recsB,List.length_cons,List.length_cons,recsB_len]
theorem recsB_app:∀ (n:Nat) (a b:List (List Chg)),recsB n (a++b)=recsB n a++recsB (n+a.length) b
 |n,[],b=>rfl
 |n,l::a,b=>by
  rw[List.cons_append,recsB,recsB,recsB_app,List.cons_append,List.length_cons]
  congr 3
  omega
theorem recsB_get:∀ (n:Nat) {ls:List (List Chg)} {k:Nat} {l:List Chg},ls[k]? =some l→(recsB n ls)[k]? =some (recB (n+k) l)
 |n,[],k,l,h=>by simp at h
 |n,a::ls,0,l,h=>by
  obtain rfl:a=l:=by simpa using h
  rfl
 |n,a::ls,k+1,l,h=>by
  have:=recsB_get (n+1) (ls:=ls) (k:=k) (by simpa using h)
  rw[recsB,List.getElem?_cons_succ,this]
  congr 2
  omega
structure HistOk(s:Sc)(ls:List (List Chg))(r:Rl):Prop where
 h:hist ⟨s,[],0⟩ ls=some r
 few:ls.length≤300
 ch:∀ l∈ls,l.length≤60∧∀ c∈l,ChOk c
theorem hist_take:∀ {ls:List (List Chg)} {r0 r:Rl} {k:Nat},hist r0 ls=some r→∃ r',hist r0 (ls.take k)=some r'
 | [],r0,r,k,_=>⟨r0,by simp[hist]⟩
 |l::ls,r0,r,0,_=>⟨r0,rfl⟩
 |l::ls,r0,r,k+1,h=>by
  unfold hist at h
  split at h
  ·rename_i r1 h1
   split at h
   ·rename_i h2
    obtain⟨r',h3⟩:=hist_take (k:=k) h
    refine⟨r',?_⟩
    rw[List.take_succ_cons]
    unfold hist
    rw[h1]
    dsimp only
    rw[if_pos h2,h3]
   ·cases h
  ·cases h
theorem hist_step{ls:List (List Chg)}{r0 r r1:Rl}{k:Nat}{l:List Chg}(h:hist r0 ls=some r)(hk:ls[k]? =some l)(h1:hist r0 (ls.take k)=some r1):∃ r2,dones r1 l=some r2∧r2.whole=true∧hist r0 (ls.take (k+1))=some r2:=by
 have hkl:k<ls.length:=by
  rcases Nat.lt_or_ge k ls.length with h1|h1
  ·exact h1
  ·rw[List.getElem?_eq_none h1]at hk;cases hk
 obtain⟨r2,h2⟩:=hist_take (k:=k+1) h
 have e:=h2
 rw[List.take_succ_eq_append_getElem hkl,hist_app,h1]at e
 rw[List.getElem?_eq_getElem hkl]at hk
 rw[Option.some.inj hk]at e
 change hist r1 [l]=some r2 at e
 unfold hist at e
 split at e
 ·rename_i r3 h3
  split at e
  ·rename_i h4
   obtain rfl:=Option.some.inj e
   exact⟨r3,h3,h4,h2⟩
  ·cases e
 ·cases e
theorem hist_ok:∀ {ls:List (List Chg)} {r0 r:Rl},r0.Ok→hist r0 ls=some r→r.Ok∧r.s=r0.s
 | [],r0,r,h0,h=>by rw[← Option.some.inj h];exact⟨h0,rfl⟩
 |l::ls,r0,r,h0,h=>by
  unfold hist at h
  split at h
  ·rename_i r1 h1
   split at h
   ·have e:=(dones_N h1).1
    have hs:=dones_s h1
    obtain⟨a,b⟩:=hist_ok (r0:=r1) (by rw[← e];exact doneN_ok h0 l) h
    exact⟨a,b.trans hs⟩
   ·cases h
  ·cases h
end Go.Pl
namespace Go.Proofs.YtmnafjonbeihiaaGreatDoor
open Go Go.Fx Go.Proofs Go.Pl
structure Src where
 r:Rl
 l:List (List Chg)
 t:Option Tx
 w:Wv
structure SrY where
 vs:Value
 ts:List Tb
 wb:Nat
 rb:Nat
 lv:V1s
 ls:List Cmt
 tb:Nat
structure SrOK(P:HProp)(S:Src)(y:SrY):Prop where
 vc:y.vs.oneCell'=true
 sv:SV P y.vs y.ts
 ts:y.ts.map Tb.c=S.r.s
 cm:∀ x∈y.ls,CmtI P x
 l:y.ls.map (fun x=>x.2.map Cm.c)=S.l
theorem SrOK.ext{P P':HProp}(e:Ext P P'){S:Src}{y:SrY}(h:SrOK P S y):SrOK P' S y:=⟨h.vc,h.sv.ext e,h.ts,fun x hx=>(h.cm x hx).ext e,h.l⟩
def empS:HProp:=fun _=>True
def opP(P:HProp)(rb tb:Nat):Option Tx→HProp
 |none=>empS
 |some x=>txP P tb rb x
def txV17(tb:Nat):Option Tx→Value
 |none=>.pointer none
 |some _=>.pointer (some ⟨tb,0,none⟩)
def srL(P:HProp)(xb b:Nat)(S:Src)(y:{y:SrY // SrOK P S y}):List HProp:=
 [pts xb (.cells [y.1.vs,.pointer (some ⟨y.1.wb,0,none⟩),y.1.lv.1,.pointer (some ⟨y.1.rb,0,none⟩),txV17 y.1.tb S.t].toArray 99),walP y.1.wb b nC S.w,row 33 1 y.1.lv.1 (y.1.ls.map cmtV),relP P y.1.rb S.r,opP P y.1.rb y.1.tb S.t]
def srP(P:HProp)(xb b:Nat)(S:Src):HProp:=exP (srL P xb b S)
theorem sr_in{P:HProp}{xb b:Nat}{S:Src}{y:SrY}(hy:SrOK P S y){L:List HProp}{h:Frag}(s:SatL (srL P xb b S ⟨y,hy⟩++L) h):SatL (srP P xb b S::L) h:=ex_in (M:=srL P xb b S) ⟨y,hy⟩ rfl s
theorem empS_in{L:List HProp}{h:Frag}(s:SatL L h):SatL (empS::L) h:=satL_emp (A:=empS) trivial s
theorem sOpen_nil(v:Value)(hv:v.oneCell'=true):FSpec Tryz.prog 22 [.pointer none,.agg #[v]] [] Unit (fun _=>True) (fun _=>.tuple #[.pointer none,.int .i64 1]) (fun _=>[]):=by
 refine spec_intro [] _ Tryz.func22 rfl Tryz.ntmps22 (by rfl) (fun w0 R=>?_)
 repeat'(first|(refine gY ?_;intros)|(refine hY ?_ ?_<;>intro hgd)|(refine jY ?_ ?_<;>intro _)|fail)
 (refine rt_Y (y:=()) (hrs:=Tryz.results22) (hv:=?_) (hφ:=?_))
 ·rfl
 ·trivial
set_option maxHeartbeats 16000000 in
theorem sOpen_new(b:Nat)(d d1:Dk)(w1:Wv)(vs:Value)(ts:List Tb)(A:HProp)(hvc:vs.oneCell'=true)(hU:UT A)(hsv:SV A vs ts)(hc:checkS (ts.map Tb.c)=true)(hd:d.Ok)(hl:d.loose.length≤1000000000)(hW:(openW d nC).2=(0,[],0))(hd1:(openW d nC).1.Ok)(hl1:(openW d nC).1.loose.length≤1000000000)
  (hA:appendW ⟨0,0,0⟩ (openW d nC).1 nC [putSB (ts.map Tb.c)]=(w1,d1,0)):
  FSpec Tryz.prog 22 [.pointer (some ⟨b,0,none⟩),.agg #[vs]] [diskP b d,A] (Nat×HProp) (fun y=>Ext A y.2) (fun y=>.tuple #[.pointer (some ⟨y.1,0,none⟩),.int .i64 0])
   (fun y=>[srP y.2 y.1 b ⟨⟨ts.map Tb.c,[],0⟩,[],none,w1⟩,diskP b d1,y.2]):=by
 have hNew:=relNew_spec vs ts A hsv hc
 have hOpen:=Open_good b d nC hd hl (by decide) (by rw[hW])
 rw[hW]at hOpen
 dsimp only at hOpen
 rw[show(⟨(([]:List BA).length:Int),((0:Nat):Int),0⟩:Wv)=⟨0,0,0⟩from rfl]at hOpen
 have hzh:=putSB_size hc
 have hAp:=fun(wb:Nat) (u:Value) (P:HProp) (hu:Vw P 1 u ([putSB (ts.map Tb.c)].map strV))=>Append_spec wb b nC ⟨0,0,0⟩ (openW d nC).1 u P [putSB (ts.map Tb.c)] hd1 hl1 (by decide) hu (by show lenT [_]≤_;simp[lenT];omega) (fun _=>by decide)
 rw[hA]at hAp
 dsimp only at hAp
 have hSch:=fun(rb:Nat) (P:HProp)=>relSchema_spec rb ⟨ts.map Tb.c,[],0⟩ P (Rl.Ok.new hc)
 have hPut:=fun(P:HProp) (e:Ext A P)=>sPut_spec vs ts P (hU.ext e) (hsv.ext e) hc hvc
 generalize putSB (ts.map Tb.c)=hd0 at hAp hPut
 generalize (openW d nC).1=d0 at hOpen hAp
 have e0:(!decide ((0:Int)=(0:Int)))=false:=rfl
 refine spec_intro [] _ Tryz.func22 rfl Tryz.ntmps22 (by rfl) (fun w0 R=>?_)
 repeat'(first|(refine gY ?_;intros)|(refine hY ?_ ?_<;>intro hgd)|(refine jY ?_ ?_<;>intro _)|fail)
 refine cl_Y (hNew) ?_
 rintro⟨rb,P1⟩ hE1
 dsimp only at hE1 ⊢
 repeat'(first|(refine gY ?_;intros)|(refine hY ?_ ?_<;>intro hgd)|(refine jY ?_ ?_<;>intro _)|fail)
 refine cl_Y (hOpen) ?_
 rintro⟨wb,⟨lv,hlv⟩⟩ _
 dsimp only
 repeat'(first|(refine gY ?_;intros)|(refine hY ?_ ?_<;>intro hgd)|(refine jY ?_ ?_<;>intro _)|fail)
 refine cl_Y (hSch rb P1) ?_
 rintro⟨⟨v2,hv2⟩,ts2,P2⟩ ⟨hs2,ht2,hE2⟩
 dsimp only at hs2 ht2 hE2 ⊢
 repeat'(first|(refine gY ?_;intros)|(refine hY ?_ ?_<;>intro hgd)|(refine jY ?_ ?_<;>intro _)|fail)
 rename_i xb
 refine cl_Y (hPut P2 (hE1.trans hE2)) ?_
 intro _ _
 refine ops_learn (rowShapeS (e:=9) (n:=1) (v:=lv) (xs:=([]:List BA).map strV) (by decide) takeD) ?_
 rintro⟨pl,cl,rfl,_,_⟩
 have t1:decide (((List.map strV ([]:List BA)).length:Int)=0)=true:=rfl
 repeat'(first|(refine gY ?_;intros)|(refine hY ?_ ?_<;>intro hgd)|(refine jY ?_ ?_<;>intro _)|fail)
 rename_i w hw
 refine ops_poolN (ty:=9) (n:=1) (v:=w) (xs:=[hd0].map strV) (P:=P2) takeD ?_
 intro P3 hE3 hv3
 refine cl_Y (hAp wb w P3 hv3) ?_
 intro _ _
 repeat'(first|(refine gY ?_;intros)|(refine hY ?_ ?_<;>intro hgd)|(refine jY ?_ ?_<;>intro _)|fail)
 have hE:=hE1.trans (hE2.trans hE3)
 have hy:SrOK P3 ⟨⟨ts.map Tb.c,[],0⟩,[],none,w1⟩ ⟨v2,ts2,wb,rb,⟨.slice none 0 0,rfl⟩,[],0⟩:=⟨hv2,hs2.ext hE3,ht2,fun x hx=>by simp at hx,rfl⟩
 refine cont_map (fun _ h=>relP_ext hE3 (b:=rb) (r:=⟨ts.map Tb.c,[],0⟩) (Take.out1 (A:=relP P2 rb ⟨ts.map Tb.c,[],0⟩) takeD h)) ?_
 refine cont_map (fun _ h=>nilRow (e:=33) (n:=1) h) ?_
 refine cont_map (fun _ h=>empS_in h) ?_
 refine cont_map (fun _ h=>sr_in (P:=P3) (xb:=xb) (b:=b) hy (Take.out takeD h)) ?_
 (refine rt_Y (y:=(xb,P3)) (hrs:=Tryz.results22) (hv:=?_) (hφ:=?_))
 ·rfl
 ·exact hE
set_option maxHeartbeats 32000000 in
theorem sOpen_again(b:Nat)(d d1:Dk)(sz:Nat)(vs:Value)(ts:List Tb)(A:HProp)(ls:List (List Chg))(r:Rl)(hvc:vs.oneCell'=true)(hU:UT A)(hsv:SV A vs ts)(hc:checkS (ts.map Tb.c)=true)(hd:d.Ok)(hl:d.loose.length≤1000000000)(hH:HistOk (ts.map Tb.c) ls r)
  (hW:openW d nC=(d1,0,putSB (ts.map Tb.c)::recsB 1 ls,sz)):
  FSpec Tryz.prog 22 [.pointer (some ⟨b,0,none⟩),.agg #[vs]] [diskP b d,A] (Nat×HProp) (fun y=>Ext A y.2) (fun y=>.tuple #[.pointer (some ⟨y.1,0,none⟩),.int .i64 0])
   (fun y=>[srP y.2 y.1 b ⟨r,ls,none,⟨((ls.length+1:Nat):Int),(sz:Int),0⟩⟩,diskP b d1,y.2]):=by
 have hNew:=relNew_spec vs ts A hsv hc
 have hOpen:=Open_good b d nC hd hl (by decide) (by rw[hW])
 rw[hW]at hOpen
 dsimp only at hOpen
 rw[List.length_cons,recsB_len]at hOpen
 have hSch:=fun(rb:Nat) (P:HProp)=>relSchema_spec rb ⟨ts.map Tb.c,[],0⟩ P (Rl.Ok.new hc)
 have hPut:=fun(P:HProp) (e:Ext A P)=>sPut_spec vs ts P (hU.ext e) (hsv.ext e) hc hvc
 have hok0:Rl.Ok ⟨ts.map Tb.c,[],0⟩:=Rl.Ok.new hc
 have hget:=fun(k:Nat) (l:List Chg) (h:ls[k]? =some l)=>recsB_get 1 h
 have hRL:=recsB_len 1 ls
 have hfew:=hH.few
 generalize putSB (ts.map Tb.c)=hd0 at hPut hOpen
 generalize recsB 1 ls=rs at hOpen hget hRL
 obtain⟨r0,hr0⟩:∃ r0:Rl,r0=⟨ts.map Tb.c,[],0⟩:=⟨_,rfl⟩
 have hHh:=hH.h
 rw[← hr0]at hHh hok0
 have hr0s:r0.s=ts.map Tb.c:=by rw[hr0]
 have e0:(!decide ((0:Int)=(0:Int)))=false:=rfl
 have lL:((hd0::rs).map strV).length=ls.length+1:=by rw[List.length_map,List.length_cons,hRL]
 refine spec_intro [] _ Tryz.func22 rfl Tryz.ntmps22 (by rfl) (fun w0 R=>?_)
 repeat'(first|(refine gY ?_;intros)|(refine hY ?_ ?_<;>intro hgd)|(refine jY ?_ ?_<;>intro _)|fail)
 refine cl_Y (hNew) ?_
 rintro⟨rb,P1⟩ hE1
 dsimp only at hE1 ⊢
 repeat'(first|(refine gY ?_;intros)|(refine hY ?_ ?_<;>intro hgd)|(refine jY ?_ ?_<;>intro _)|fail)
 refine cl_Y (hOpen) ?_
 rintro⟨wb,⟨lv,hlv⟩⟩ _
 dsimp only
 refine ops_learn (rowShapeS (e:=9) (n:=1) (v:=lv) (xs:=(hd0::rs).map strV) (by decide) takeD) ?_
 rintro⟨pl,cl,rfl,hcl,_⟩
 refine ops_poolN (ty:=9) (n:=1) (v:=.slice pl ((hd0::rs).map strV).length cl) (xs:=(hd0::rs).map strV) (P:=P1) takeD ?_
 intro P1' hE1' hvL
 refine opsL_mapL (fun _ h=>relP_ext hE1' (b:=rb) (r:=⟨ts.map Tb.c,[],0⟩) (Take.out1 (A:=relP P1 rb ⟨ts.map Tb.c,[],0⟩) takeD h)) ?_
 repeat'(first|(refine gY ?_;intros)|(refine hY ?_ ?_<;>intro hgd)|(refine jY ?_ ?_<;>intro _)|fail)
 refine cl_Y (hSch rb P1') ?_
 rintro⟨⟨v2,hv2⟩,ts2,P2⟩ ⟨hs2,ht2,hE2⟩
 dsimp only at hs2 ht2 hE2 ⊢
 repeat'(first|(refine gY ?_;intros)|(refine hY ?_ ?_<;>intro hgd)|(refine jY ?_ ?_<;>intro _)|fail)
 rename_i xb
 refine cl_Y (hPut P2 (hE1.trans (hE1'.trans hE2))) ?_
 intro _ _
 have hvL2:=hE2.vw hvL
 have t1:decide ((((hd0::rs).map strV).length:Int)=0)=false:=decide_eq_false (by omega)
 have t2:(!(hd0.toList==hd0.toList))=false:=by simp
 have hx0:((hd0::rs).map strV)[0]? =some (strV hd0):=rfl
 have hn0:0<((hd0::rs).map strV).length:=by omega
 refine ops_learn (VwIn.base (n:=1) (p:=pl) (len:=((hd0::rs).map strV).length) (cap:=cl) (xs:=(hd0::rs).map strV) (VwIn.here hvL2) (by intro e;rw[e]at hn0;simp at hn0)) ?_
 rintro⟨bu,ou,rfl⟩
 repeat'(first|(refine gY ?_;intros)|(refine hY ?_ ?_<;>intro hgd)|(refine jY ?_ ?_<;>intro _)|fail)
 have lr:(rs.map strV).length=ls.length:=by rw[List.length_map,hRL]
 obtain⟨pd,hdv⟩:∃ pd,dropV 1 (some ⟨bu,ou,none⟩) ((hd0::rs).map strV).length cl 1= .slice pd (rs.map strV).length (cl-1):=⟨_,by unfold dropV;congr 1⟩
 have hvD:=hvL2.drop (k:=1) hcl
 rw[hdv,show((hd0::rs).map strV).drop 1=rs.map strV from rfl]at hvD
 refine ops_run (a_slice_viewlo (m:=1) rfl rfl rfl (by omega) rfl ?_)
 rw[hdv]
 repeat'(first|(refine gY ?_;intros)|(refine hY ?_ ?_<;>intro hgd)|(refine jY ?_ ?_<;>intro _)|fail)
 refine ok_map (fun _ h=>nilRow (e:=33) (n:=1) h) ?_
 rw[← hr0]
 refine ok_map (L':=[pts xb (.cells [v2,.pointer (some ⟨wb,0,none⟩),.slice none 0 0,.pointer (some ⟨rb,0,none⟩),.pointer none].toArray 99),row 33 1 (.slice none 0 0) (([]:List Cmt).map cmtV),relP P2 rb r0,P2,diskP b d1,walP wb b nC ⟨((ls.length+1:Nat):Int),(sz:Int),0⟩]++R) entD ?_
 refine ok_loop' (γ:=Nat×V1s×List Cmt×Rl×HProp) (fun g ρ L=>g.1≤ls.length∧g.2.2.1.length=g.1∧g.2.2.1.map (fun x=>x.2.map Cm.c)=ls.take g.1∧hist r0 (ls.take g.1)=some g.2.2.2.1∧Ext P2 g.2.2.2.2∧(∀ x∈g.2.2.1,CmtI g.2.2.2.2 x)∧
   Knows ρ [(10,.pointer (some ⟨xb,0,none⟩)),(63,.slice pd (rs.map strV).length (cl-1)),(64,.int .i64 ((rs.map strV).length:Int)),(65,.int .i64 (g.1:Int))]∧
   L=[pts xb (.cells [v2,.pointer (some ⟨wb,0,none⟩),g.2.1.1,.pointer (some ⟨rb,0,none⟩),.pointer none].toArray 99),row 33 1 g.2.1.1 (g.2.2.1.map cmtV),relP g.2.2.2.2 rb g.2.2.2.1,g.2.2.2.2,diskP b d1,walP wb b nC ⟨((ls.length+1:Nat):Int),(sz:Int),0⟩]++R)
  (fun g=>ls.length-g.1) (0,⟨.slice none 0 0,rfl⟩,[],r0,P2) ⟨Nat.zero_le _,rfl,rfl,rfl,.refl _,fun x hx=>by simp at hx,⟨rfl,rfl,rfl,rfl,trivial⟩,rfl⟩ ?_
 rintro⟨k,⟨v,hv⟩,cm,rk,P⟩ ρ L ⟨hk0,hk1,hk2,hk3,hE,hcm,hk,rfl⟩
 dsimp only at hk0 hk1 hk2 hk3 hE hcm hk ⊢
 refine ok_regs hk ?_
 obtain⟨hrk,hrks⟩:=hist_ok hok0 hk3
 cases t3:decide ((k:Int)<((rs.map strV).length:Int))with
 |false=>
  have hke:k=ls.length:=by have:=of_decide_eq_false t3;omega
  have hfin:rk=r:=by
   rw[hke,List.take_length,hHh]at hk3
   exact(Option.some.inj hk3).symm
  subst hfin
  have hy:SrOK P ⟨rk,ls,none,⟨((ls.length+1:Nat):Int),(sz:Int),0⟩⟩ ⟨v2,ts2,wb,rb,⟨v,hv⟩,cm,0⟩:=⟨hv2,hs2.ext hE,by show ts2.map Tb.c=rk.s;rw[ht2,hrks,hr0s],hcm,by rw[hk2,hke,List.take_length]⟩
  repeat'(first|(refine gY ?_;intros)|(refine hY ?_ ?_<;>intro hgd)|(refine jY ?_ ?_<;>intro _)|fail)
  refine cont_map (fun _ h=>empS_in h) ?_
  refine cont_map (fun _ h=>sr_in (P:=P) (xb:=xb) (b:=b) hy (Take.out takeD h)) ?_
  (refine rt_Y (y:=(xb,P)) (hrs:=Tryz.results22) (hv:=?_) (hφ:=?_))
  ·rfl
  ·exact hE1.trans (hE1'.trans (hE2.trans hE))
 |true=>
  have h:k<ls.length:=by have:=of_decide_eq_true t3;omega
  obtain⟨l,hlk⟩:∃ l,ls[k]? =some l:=⟨_,List.getElem?_eq_getElem h⟩
  obtain⟨r2,hd2,hw2,hn2⟩:=hist_step hHh hlk hk3
  obtain⟨hl60,hlch⟩:=hH.ch l (List.mem_of_getElem? hlk)
  have hx:(rs.map strV)[k]? =some (strV (recB (1+k) l)):=by rw[List.getElem?_map,hget k l hlk];rfl
  have hn1:k<(rs.map strV).length:=by omega
  have hvD2:=hE.vw hvD
  have htk:=stake_spec xb wb rb v2 ts2 ⟨v,hv⟩ cm (.pointer none) rk r2 l P hv2 rfl (hs2.ext hE) (by rw[ht2,hrks,hr0s]) hrk (hU.ext (hE1.trans (hE1'.trans (hE2.trans hE)))) (by omega) (by omega) hd2 hw2 hlch
  rw[hk1,Nat.add_comm k 1]at htk
  generalize recB (1+k) l=tx at hx htk
  have hls:ls.take (k+1)=ls.take k++[l]:=by
   rw[List.take_succ_eq_append_getElem h]
   rw[List.getElem?_eq_getElem h]at hlk
   rw[Option.some.inj hlk]
  refine ok_learn (VwIn.base (n:=1) (p:=pd) (len:=(rs.map strV).length) (cap:=cl-1) (xs:=rs.map strV) (VwIn.there (VwIn.there (VwIn.there (VwIn.here hvD2)))) (by intro e;rw[e]at hn1;simp at hn1)) ?_
  rintro⟨bd,od,rfl⟩
  repeat'(first|(refine gY ?_;intros)|(refine hY ?_ ?_<;>intro hgd)|(refine jY ?_ ?_<;>intro _)|fail)
  refine cl_Y (htk) ?_
  rintro⟨⟨v',hv'⟩,x',P'⟩ ⟨hE',hI',hx'⟩
  dsimp only at hE' hI' hx' ⊢
  repeat'(first|(refine gY ?_;intros)|(refine hY ?_ ?_<;>intro hgd)|(refine jY ?_ ?_<;>intro _)|fail)
  refine cont_map (L':=[pts xb (.cells [v2,.pointer (some ⟨wb,0,none⟩),v',.pointer (some ⟨rb,0,none⟩),.pointer none].toArray 99),row 33 1 v' ((cm++[x']).map cmtV),relP P' rb r2,P',diskP b d1,walP wb b nC ⟨((ls.length+1:Nat):Int),(sz:Int),0⟩]++R) entD ?_
  exact cont_back (k+1,⟨v',hv'⟩,cm++[x'],r2,P') ⟨h,by dsimp only;rw[List.length_append,List.length_singleton,hk1],by dsimp only;rw[List.map_append,hk2,hls];show _++[x'.2.map Cm.c]=_;rw[hx'],hn2,hE.trans hE',fun y hy=>by
   rcases List.mem_append.1 hy with h1|h1
   ·exact(hcm y h1).ext hE'
   ·rw[List.mem_singleton.1 h1];exact hI',⟨rfl,rfl,rfl,rfl,trivial⟩,rfl⟩ (by dsimp only;omega)
structure SrI(S:Src):Prop where
 ok:S.r.Ok
 wf:Rl.Wf S.r
 few:S.l.length≤300
 tx:∀ x,S.t=some x→x.Ok∧Rl.Wf x.own∧x.over=false∧TxB S.r x
def Src.begin(S:Src):Src×Int:=if S.w.fault≠0 then(S,S.w.fault)else match S.t with
 |some _=>(S,170)
 |none=>({S with t:=some ⟨S.r,S.r.turns,[],[],false⟩},0)
def Src.mayE(S:Src):Int:=if S.w.fault≠0 then S.w.fault else match S.t with
 |some _=>0
 |none=>171
def Src.doS(S:Src)(o:Opr):Src×Int:=if S.w.fault≠0 then(S,S.w.fault)else match S.t with
 |some x=>({S with t:=some (x.doT o).1},(x.doT o).2)
 |none=>(S,171)
def Src.abortS(S:Src):Src×Int:=match S.t with
 |some _=>({S with t:=none},0)
 |none=>(S,171)
abbrev sxP(xb wb rb:Nat)(vs lv tp:Value):HProp:=pts xb (.cells [vs,.pointer (some ⟨wb,0,none⟩),lv,.pointer (some ⟨rb,0,none⟩),tp].toArray 99)
theorem sFaultO(xb b wb rb:Nat)(vs lv tp:Value)(w:Wv):FSpec Tryz.prog 17 [.pointer (some ⟨xb,0,none⟩)] [sxP xb wb rb vs lv tp,walP wb b nC w] Unit (fun _=>True) (fun _=>.int .i64 w.fault) (fun _=>[sxP xb wb rb vs lv tp,walP wb b nC w]):=by
 have hF:=Fault_spec wb b nC w
 refine spec_intro [] _ Tryz.func17 rfl Tryz.ntmps17 (by rfl) (fun w0 R=>?_)
 repeat'(first|(refine gY ?_;intros)|(refine hY ?_ ?_<;>intro hgd)|(refine jY ?_ ?_<;>intro _)|fail)
 refine cl_Y (hF) ?_
 intro _ _
 repeat'(first|(refine gY ?_;intros)|(refine hY ?_ ?_<;>intro hgd)|(refine jY ?_ ?_<;>intro _)|fail)
 (refine rt_Y (y:=()) (hrs:=Tryz.results17) (hv:=?_) (hφ:=?_))
 ·rfl
 ·trivial
set_option maxHeartbeats 4000000 in
theorem sBegin_spec(xb b:Nat)(S:Src)(P:HProp):FSpec Tryz.prog 12 [.pointer (some ⟨xb,0,none⟩)] [srP P xb b S] Unit (fun _=>True) (fun _=>.int .i64 S.begin.2) (fun _=>[srP P xb b S.begin.1]):=by
 obtain⟨r,l,t,w⟩:=S
 refine fspec_ex ?_
 rintro⟨⟨vs,ts,wb,rb,⟨lv,hlv⟩,ls,tb⟩,hy⟩
 unfold Src.begin srL
 dsimp only
 have hvc:=hy.vc
 dsimp only at hvc
 by_cases h0:w.fault=0
 ·have e0:(!decide (w.fault=0))=false:=by rw[h0];rfl
  rw[if_neg (fun h=>h h0)]
  have hFa:=fun tp=>sFaultO xb b wb rb vs lv tp w
  cases t with
  |some x=>
   dsimp only[txV17,opP]
   refine spec_intro [] _ Tryz.func12 rfl Tryz.ntmps12 (by rfl) (fun w0 R=>?_)
   repeat'(first|(refine gY ?_;intros)|(refine hY ?_ ?_<;>intro hgd)|(refine jY ?_ ?_<;>intro _)|fail)
   refine cl_Y (hFa (.pointer (some ⟨tb,0,none⟩))) ?_
   intro _ _
   repeat'(first|(refine gY ?_;intros)|(refine hY ?_ ?_<;>intro hgd)|(refine jY ?_ ?_<;>intro _)|fail)
   refine cont_map (fun _ h=>sr_in (P:=P) (xb:=xb) (b:=b) hy (Take.out takeD h)) ?_
   (refine rt_Y (y:=()) (hrs:=Tryz.results12) (hv:=?_) (hφ:=?_))
   ·rfl
   ·trivial
  |none=>
   dsimp only[txV17,opP]
   have hNx:=txNew_spec rb r P
   refine spec_intro [] _ Tryz.func12 rfl Tryz.ntmps12 (by rfl) (fun w0 R=>?_)
   repeat'(first|(refine gY ?_;intros)|(refine hY ?_ ?_<;>intro hgd)|(refine jY ?_ ?_<;>intro _)|fail)
   refine cl_Y (hFa (.pointer none)) ?_
   intro _ _
   repeat'(first|(refine gY ?_;intros)|(refine hY ?_ ?_<;>intro hgd)|(refine jY ?_ ?_<;>intro _)|fail)
   refine cl_Y (hNx) ?_
   intro tb' _
   repeat'(first|(refine gY ?_;intros)|(refine hY ?_ ?_<;>intro hgd)|(refine jY ?_ ?_<;>intro _)|fail)
   refine cont_map (fun _ h=>sr_in (P:=P) (xb:=xb) (b:=b) (S:=⟨r,l,some ⟨r,r.turns,[],[],false⟩,w⟩) (y:=⟨vs,ts,wb,rb,⟨lv,hlv⟩,ls,tb'⟩) ⟨hy.vc,hy.sv,hy.ts,hy.cm,hy.l⟩ (Take.out takeD h)) ?_
   (refine rt_Y (y:=()) (hrs:=Tryz.results12) (hv:=?_) (hφ:=?_))
   ·rfl
   ·trivial
 ·have e0:(!decide (w.fault=0))=true:=by rw[decide_eq_false h0];rfl
  rw[if_pos h0]
  dsimp only
  generalize htv:txV17 tb t=tv
  have hFa:=sFaultO xb b wb rb vs lv tv w
  refine spec_intro [] _ Tryz.func12 rfl Tryz.ntmps12 (by rfl) (fun w0 R=>?_)
  repeat'(first|(refine gY ?_;intros)|(refine hY ?_ ?_<;>intro hgd)|(refine jY ?_ ?_<;>intro _)|fail)
  refine cl_Y (hFa) ?_
  intro _ _
  repeat'(first|(refine gY ?_;intros)|(refine hY ?_ ?_<;>intro hgd)|(refine jY ?_ ?_<;>intro _)|fail)
  subst htv
  refine cont_map (fun _ h=>sr_in (P:=P) (xb:=xb) (b:=b) hy (Take.out takeD h)) ?_
  (refine rt_Y (y:=()) (hrs:=Tryz.results12) (hv:=?_) (hφ:=?_))
  ·rfl
  ·trivial
theorem sMayN(xb b wb rb:Nat)(vs lv:Value)(w:Wv)(hvc:vs.oneCell'=true)(hlc:lv.oneCell'=true)(h0:w.fault=0):FSpec Tryz.prog 46 [.pointer (some ⟨xb,0,none⟩)] [sxP xb wb rb vs lv (.pointer none),walP wb b nC w] Unit (fun _=>True) (fun _=>.int .i64 171) (fun _=>[sxP xb wb rb vs lv (.pointer none),walP wb b nC w]):=by
 have e0:(!decide (w.fault=0))=false:=by rw[h0];rfl
 have hFa:=sFaultO xb b wb rb vs lv (.pointer none) w
 refine spec_intro [] _ Tryz.func46 rfl Tryz.ntmps46 (by rfl) (fun w0 R=>?_)
 repeat'(first|(refine gY ?_;intros)|(refine hY ?_ ?_<;>intro hgd)|(refine jY ?_ ?_<;>intro _)|fail)
 refine cl_Y (hFa) ?_
 intro _ _
 repeat'(first|(refine gY ?_;intros)|(refine hY ?_ ?_<;>intro hgd)|(refine jY ?_ ?_<;>intro _)|fail)
 (refine rt_Y (y:=()) (hrs:=Tryz.results46) (hv:=?_) (hφ:=?_))
 ·rfl
 ·trivial
theorem sMayS(xb b wb rb tb:Nat)(vs lv:Value)(w:Wv)(hvc:vs.oneCell'=true)(hlc:lv.oneCell'=true)(h0:w.fault=0):FSpec Tryz.prog 46 [.pointer (some ⟨xb,0,none⟩)] [sxP xb wb rb vs lv (.pointer (some ⟨tb,0,none⟩)),walP wb b nC w] Unit (fun _=>True) (fun _=>.int .i64 0) (fun _=>[sxP xb wb rb vs lv (.pointer (some ⟨tb,0,none⟩)),walP wb b nC w]):=by
 have e0:(!decide (w.fault=0))=false:=by rw[h0];rfl
 have hFa:=sFaultO xb b wb rb vs lv (.pointer (some ⟨tb,0,none⟩)) w
 refine spec_intro [] _ Tryz.func46 rfl Tryz.ntmps46 (by rfl) (fun w0 R=>?_)
 repeat'(first|(refine gY ?_;intros)|(refine hY ?_ ?_<;>intro hgd)|(refine jY ?_ ?_<;>intro _)|fail)
 refine cl_Y (hFa) ?_
 intro _ _
 repeat'(first|(refine gY ?_;intros)|(refine hY ?_ ?_<;>intro hgd)|(refine jY ?_ ?_<;>intro _)|fail)
 (refine rt_Y (y:=()) (hrs:=Tryz.results46) (hv:=?_) (hφ:=?_))
 ·rfl
 ·trivial
theorem sMayF(xb b wb rb:Nat)(vs lv tp:Value)(w:Wv)(hvc:vs.oneCell'=true)(hlc:lv.oneCell'=true)(h0:w.fault≠0):FSpec Tryz.prog 46 [.pointer (some ⟨xb,0,none⟩)] [sxP xb wb rb vs lv tp,walP wb b nC w] Unit (fun _=>True) (fun _=>.int .i64 w.fault) (fun _=>[sxP xb wb rb vs lv tp,walP wb b nC w]):=by
 have e0:(!decide (w.fault=0))=true:=by rw[decide_eq_false h0];rfl
 have hFa:=sFaultO xb b wb rb vs lv tp w
 refine spec_intro [] _ Tryz.func46 rfl Tryz.ntmps46 (by rfl) (fun w0 R=>?_)
 repeat'(first|(refine gY ?_;intros)|(refine hY ?_ ?_<;>intro hgd)|(refine jY ?_ ?_<;>intro _)|fail)
 refine cl_Y (hFa) ?_
 intro _ _
 repeat'(first|(refine gY ?_;intros)|(refine hY ?_ ?_<;>intro hgd)|(refine jY ?_ ?_<;>intro _)|fail)
 (refine rt_Y (y:=()) (hrs:=Tryz.results46) (hv:=?_) (hφ:=?_))
 ·rfl
 ·trivial
set_option maxHeartbeats 4000000 in
theorem sDo_spec(xb b:Nat)(S:Src)(o:Opr)(u:Value)(P:HProp)(hI:SrI S)(hU:UT P)(hw:Vw P 4 u (o.row.map valV))(huc:u.oneCell'=true)(hwf:∀ v∈o.row,v.wf)(hlen:o.row.length≤1000000):
  FSpec Tryz.prog 13 [.pointer (some ⟨xb,0,none⟩),.agg #[.int .u8 o.kind,.int .i64 o.table,u]] [srP P xb b S,P] HProp (fun P'=>Ext P P') (fun _=>.int .i64 (S.doS o).2) (fun P'=>[srP P' xb b (S.doS o).1,P']):=by
 obtain⟨r,l,t,w⟩:=S
 refine fspec_ex ?_
 rintro⟨⟨vs,ts,wb,rb,⟨lv,hlv⟩,ls,tb⟩,hy⟩
 unfold Src.doS srL
 dsimp only
 have hvc:=hy.vc
 dsimp only at hvc
 by_cases h0:w.fault=0
 ·rw[if_neg (fun h=>h h0)]
  have e0:(!decide ((0:Int)=0))=false:=rfl
  have e1:(!decide ((171:Int)=0))=true:=rfl
  cases t with
  |some x=>
   obtain⟨hx,hxw,_,_⟩:=hI.tx x rfl
   dsimp only[txV17,opP]
   have hM:=sMayS xb b wb rb tb vs lv w hvc hlv h0
   have hDo:=txDo_spec tb rb x o u P hx hU hw huc hwf hlen
   refine spec_intro [] _ Tryz.func13 rfl Tryz.ntmps13 (by rfl) (fun w0 R=>?_)
   repeat'(first|(refine gY ?_;intros)|(refine hY ?_ ?_<;>intro hgd)|(refine jY ?_ ?_<;>intro _)|fail)
   refine cl_Y (hM) ?_
   intro _ _
   repeat'(first|(refine gY ?_;intros)|(refine hY ?_ ?_<;>intro hgd)|(refine jY ?_ ?_<;>intro _)|fail)
   refine cl_Y (hDo) ?_
   intro P' hE
   repeat'(first|(refine gY ?_;intros)|(refine hY ?_ ?_<;>intro hgd)|(refine jY ?_ ?_<;>intro _)|fail)
   refine cont_map (fun _ h=>relP_ext hE (b:=rb) (r:=r) (Take.out1 (A:=relP P rb r) takeD h)) ?_
   refine cont_map (fun _ h=>sr_in (P:=P') (xb:=xb) (b:=b) (S:=⟨r,l,some (x.doT o).1,w⟩) (y:=⟨vs,ts,wb,rb,⟨lv,hlv⟩,ls,tb⟩) (SrOK.ext hE ⟨hy.vc,hy.sv,hy.ts,hy.cm,hy.l⟩) (Take.out takeD h)) ?_
   (refine rt_Y (y:=P') (hrs:=Tryz.results13) (hv:=?_) (hφ:=?_))
   ·rfl
   ·exact hE
  |none=>
   dsimp only[txV17,opP]
   have hM:=sMayN xb b wb rb vs lv w hvc hlv h0
   refine spec_intro [] _ Tryz.func13 rfl Tryz.ntmps13 (by rfl) (fun w0 R=>?_)
   repeat'(first|(refine gY ?_;intros)|(refine hY ?_ ?_<;>intro hgd)|(refine jY ?_ ?_<;>intro _)|fail)
   refine cl_Y (hM) ?_
   intro _ _
   repeat'(first|(refine gY ?_;intros)|(refine hY ?_ ?_<;>intro hgd)|(refine jY ?_ ?_<;>intro _)|fail)
   refine cont_map (fun _ h=>sr_in (P:=P) (xb:=xb) (b:=b) hy (Take.out takeD h)) ?_
   (refine rt_Y (y:=P) (hrs:=Tryz.results13) (hv:=?_) (hφ:=?_))
   ·rfl
   ·exact .refl _
 ·have e0:(!decide (w.fault=0))=true:=by rw[decide_eq_false h0];rfl
  rw[if_pos h0]
  dsimp only
  generalize htv:txV17 tb t=tv
  have hM:=sMayF xb b wb rb vs lv tv w hvc hlv h0
  refine spec_intro [] _ Tryz.func13 rfl Tryz.ntmps13 (by rfl) (fun w0 R=>?_)
  repeat'(first|(refine gY ?_;intros)|(refine hY ?_ ?_<;>intro hgd)|(refine jY ?_ ?_<;>intro _)|fail)
  refine cl_Y (hM) ?_
  intro _ _
  repeat'(first|(refine gY ?_;intros)|(refine hY ?_ ?_<;>intro hgd)|(refine jY ?_ ?_<;>intro _)|fail)
  subst htv
  refine cont_map (fun _ h=>sr_in (P:=P) (xb:=xb) (b:=b) hy (Take.out takeD h)) ?_
  (refine rt_Y (y:=P) (hrs:=Tryz.results13) (hv:=?_) (hφ:=?_))
  ·rfl
  ·exact .refl _
theorem sCommits_spec(xb b:Nat)(S:Src)(P:HProp)(hl:S.l.length≤300):FSpec Tryz.prog 15 [.pointer (some ⟨xb,0,none⟩)] [srP P xb b S] Unit (fun _=>True) (fun _=>.int .u64 (S.l.length:Int)) (fun _=>[srP P xb b S]):=by
 refine fspec_ex ?_
 rintro⟨⟨vs,ts,wb,rb,⟨lv,hlv⟩,ls,tb⟩,hy⟩
 unfold srL
 dsimp only
 have hvc:=hy.vc
 dsimp only at hvc
 have hll:ls.length=S.l.length:=by have:=congrArg List.length hy.l;rw[List.length_map]at this;exact this
 have lm:(ls.map cmtV).length=S.l.length:=by rw[List.length_map,hll]
 have hw:IntKind.u64.wrap ((ls.map cmtV).length:Int)=(S.l.length:Int):=by rw[lm,wrap_u64];omega
 generalize htv:txV17 tb S.t=tv
 refine spec_intro [] _ Tryz.func15 rfl Tryz.ntmps15 (by rfl) (fun w0 R=>?_)
 refine ok_learn (rowShapeS (e:=33) (n:=1) (v:=lv) (xs:=ls.map cmtV) (by decide) takeD) ?_
 rintro⟨pl,cl,rfl,_,_⟩
 repeat'(first|(refine gY ?_;intros)|(refine hY ?_ ?_<;>intro hgd)|(refine jY ?_ ?_<;>intro _)|fail)
 subst htv
 try rw[hw]
 refine cont_map (fun _ h=>sr_in (P:=P) (xb:=xb) (b:=b) hy (Take.out takeD h)) ?_
 (refine rt_Y (y:=()) (hrs:=Tryz.results15) (hv:=?_) (hφ:=?_))
 ·rfl
 ·trivial
def Src.commitS(S:Src)(d:Dk):Src×Dk×Nat×Int:=
 if S.w.fault≠0 then(S,d,0,S.w.fault)else match S.t with
 |none=>(S,d,0,171)
 |some x=>if x.checkT S.r≠0 then({S with t:=none},d,0,x.checkT S.r)else if 300≤S.l.length then(S,d,0,4)else
  if(appendW S.w d nC [recB (S.l.length+1) x.l]).2.2≠0 then({S with w:=(appendW S.w d nC [recB (S.l.length+1) x.l]).1},(appendW S.w d nC [recB (S.l.length+1) x.l]).2.1,0,(appendW S.w d nC [recB (S.l.length+1) x.l]).2.2)
  else(⟨S.r.play x.redo,S.l++[x.l],none,(appendW S.w d nC [recB (S.l.length+1) x.l]).1⟩,(appendW S.w d nC [recB (S.l.length+1) x.l]).2.1,S.l.length+1,0)
structure WOk(w:Wv):Prop where
 b:w.fault=0→0≤w.n∧w.n≤1099511627776∧0≤w.size∧w.size≤1099511627776
set_option maxHeartbeats 32000000 in
theorem sCommit_spec(xb b:Nat)(S:Src)(d:Dk)(P:HProp)(hI:SrI S)(hU:UT P)(hd:d.Ok)(hdl:d.loose.length≤1000000000)(hW:WOk S.w):
  FSpec Tryz.prog 11 [.pointer (some ⟨xb,0,none⟩)] [srP P xb b S,diskP b d,P] HProp (fun P'=>Ext P P') (fun _=>.tuple #[.int .u64 ((S.commitS d).2.2.1:Int),.int .i64 (S.commitS d).2.2.2]) (fun P'=>[srP P' xb b (S.commitS d).1,diskP b (S.commitS d).2.1,P']):=by
 obtain⟨r,l,t,w⟩:=S
 refine fspec_ex ?_
 rintro⟨⟨vs,ts,wb,rb,⟨lv,hlv⟩,ls,tb⟩,hy⟩
 unfold Src.commitS srL
 dsimp only
 have hvc:=hy.vc
 dsimp only at hvc
 by_cases h0:w.fault=0
 ·rw[if_neg (fun h=>h h0)]
  have e0:(!decide ((0:Int)=0))=false:=rfl
  have e1:(!decide ((171:Int)=0))=true:=rfl
  cases t with
  |none=>
   dsimp only[txV17,opP]
   have hM:=sMayN xb b wb rb vs lv w hvc hlv h0
   refine spec_intro [] _ Tryz.func11 rfl Tryz.ntmps11 (by rfl) (fun w0 R=>?_)
   repeat'(first|(refine gY ?_;intros)|(refine hY ?_ ?_<;>intro hgd)|(refine jY ?_ ?_<;>intro _)|fail)
   refine cl_Y (hM) ?_
   intro _ _
   repeat'(first|(refine gY ?_;intros)|(refine hY ?_ ?_<;>intro hgd)|(refine jY ?_ ?_<;>intro _)|fail)
   refine cont_map (fun _ h=>sr_in (P:=P) (xb:=xb) (b:=b) hy (Take.out takeD h)) ?_
   (refine rt_Y (y:=P) (hrs:=Tryz.results11) (hv:=?_) (hφ:=?_))
   ·rfl
   ·exact .refl _
  |some x=>
   obtain⟨hx,hxw,hxo,hxb⟩:=hI.tx x rfl
   dsimp only[txV17,opP]
   have hM:=sMayS xb b wb rb tb vs lv w hvc hlv h0
   have hCk:=txCheck_spec tb rb x r P hx
   by_cases hc:x.checkT r=0
   ·rw[if_neg (fun h=>h hc)]
    have e2:(!decide (x.checkT r=0))=false:=by rw[hc];rfl
    have hll:ls.length=l.length:=by have:=congrArg List.length hy.l;rw[List.length_map]at this;exact this
    have lm:(ls.map cmtV).length=l.length:=by rw[List.length_map,hll]
    by_cases h3:300≤l.length
    ·rw[if_pos h3]
     have e3:decide ((300:Int)≤((ls.map cmtV).length:Int))=true:=decide_eq_true (by omega)
     refine spec_intro [] _ Tryz.func11 rfl Tryz.ntmps11 (by rfl) (fun w0 R=>?_)
     refine ok_learn (rowShapeS (e:=33) (n:=1) (v:=lv) (xs:=ls.map cmtV) (by decide) takeD) ?_
     rintro⟨pl,cl,rfl,_,_⟩
     repeat'(first|(refine gY ?_;intros)|(refine hY ?_ ?_<;>intro hgd)|(refine jY ?_ ?_<;>intro _)|fail)
     refine cl_Y (hM) ?_
     intro _ _
     repeat'(first|(refine gY ?_;intros)|(refine hY ?_ ?_<;>intro hgd)|(refine jY ?_ ?_<;>intro _)|fail)
     refine cl_Y (hCk) ?_
     intro _ _
     repeat'(first|(refine gY ?_;intros)|(refine hY ?_ ?_<;>intro hgd)|(refine jY ?_ ?_<;>intro _)|fail)
     refine cont_map (fun _ h=>sr_in (P:=P) (xb:=xb) (b:=b) hy (Take.out takeD h)) ?_
     (refine rt_Y (y:=P) (hrs:=Tryz.results11) (hv:=?_) (hφ:=?_))
     ·rfl
     ·exact .refl _
    ·rw[if_neg h3]
     have e3:decide ((300:Int)≤((ls.map cmtV).length:Int))=false:=decide_eq_false (by omega)
     have e4:IntKind.u64.wrap (((ls.map cmtV).length:Int)+1)=((l.length+1:Nat):Int):=by rw[lm];show((l.length:Int)+1) % 18446744073709551616=_;omega
     have hCh:=txChanges_spec tb rb x P hx
     refine spec_intro [] _ Tryz.func11 rfl Tryz.ntmps11 (by rfl) (fun w0 R=>?_)
     refine ok_learn (rowShapeS (e:=33) (n:=1) (v:=lv) (xs:=ls.map cmtV) (by decide) takeD) ?_
     rintro⟨pl,cl,rfl,_,_⟩
     repeat'(first|(refine gY ?_;intros)|(refine hY ?_ ?_<;>intro hgd)|(refine jY ?_ ?_<;>intro _)|fail)
     refine cl_Y (hM) ?_
     intro _ _
     repeat'(first|(refine gY ?_;intros)|(refine hY ?_ ?_<;>intro hgd)|(refine jY ?_ ?_<;>intro _)|fail)
     refine cl_Y (hCk) ?_
     intro _ _
     repeat'(first|(refine gY ?_;intros)|(refine hY ?_ ?_<;>intro hgd)|(refine jY ?_ ?_<;>intro _)|fail)
     refine ok_drawL (cv:=[]) [9,10,11] ([sxP xb wb rb vs (.slice pl (ls.map cmtV).length cl) (.pointer (some ⟨tb,0,none⟩))]) (takeD) (by kernel_rfl) rfl (by decide +kernel) ?_
     repeat'(first|(refine gY ?_;intros)|(refine hY ?_ ?_<;>intro hgd)|(refine jY ?_ ?_<;>intro _)|fail)
     refine clN_Y (hCh) ?_
     rintro⟨⟨cv,hcv⟩,cs,P1⟩ ⟨hE1,hcr,hcx⟩
     dsimp only at hE1 hcr hcx ⊢
     refine ops_poolN (ty:=61) (n:=4) (v:=cv) (xs:=cs.map cmV) (P:=P1) takeD ?_
     intro P2 hE2 hv2
     have hE12:=hE1.trans hE2
     have hcl60:cs.length≤60:=by have:=congrArg List.length hcx;rw[List.length_map]at this;have:=hx.len;omega
     have hcs:∀ c∈cs,ChI P2 c∧ChOk c.c:=fun c hm=>by
      have hO:ChOk c.c:=hxb.ch _ (by rw[← hcx];exact List.mem_map_of_mem hm)
      exact⟨ChI.of ((hcr c hm).ext hE2) hO,hO⟩
     have hrc:=record_spec (l.length+1) cv P2 cs (by omega) (hU.ext hE12) hv2 hcs (by omega)
     rw[hcx]at hrc
     have hzr:(recB (l.length+1) x.l).size≤2+1652*x.l.length:=recT_le (fun c hm=>hxb.ch c hm) (by have:=hx.len;omega) _ (Nat.le_refl _)
     have hAp:=fun(u:Value) (Q:HProp) (hu:Vw Q 1 u ([recB (l.length+1) x.l].map strV))=>Append_spec wb b nC w d u Q [recB (l.length+1) x.l] hd hdl (by decide) hu (by show lenT [_]≤_;simp[lenT];have:=hx.len;omega) hW.b
     generalize recB (l.length+1) x.l=rc at hrc hAp ⊢
     generalize appendW w d nC [rc]=ap at hAp ⊢
     obtain⟨w1,d1,e⟩:=ap
     dsimp only at hAp ⊢
     repeat'(first|(refine gY ?_;intros)|(refine hY ?_ ?_<;>intro hgd)|(refine jY ?_ ?_<;>intro _)|fail)
     refine clN_Y (hrc) ?_
     intro _ _
     repeat'(first|(refine gY ?_;intros)|(refine hY ?_ ?_<;>intro hgd)|(refine jY ?_ ?_<;>intro _)|fail)
     rename_i w9 hw9
     refine ops_poolN (ty:=9) (n:=1) (v:=w9) (xs:=[rc].map strV) (P:=P2) takeD ?_
     intro P3 hE3 hv3
     have hE:=hE12.trans hE3
     refine cl_Y (hAp w9 P3 hv3) ?_
     intro _ _
     refine opsL_mapL (fun _ h=>relP_ext hE (b:=rb) (r:=r) (Take.out1 (A:=relP P rb r) takeD h)) ?_
     refine opsL_mapL (fun _ h=>txP_ext (hE2.trans hE3) (b:=tb) (bn:=rb) (x:=x) (Take.out1 (A:=txP P1 tb rb x) takeD h)) ?_
     by_cases he:e=0
     ·subst he
      rw[if_neg (fun h=>h rfl)]
      dsimp only
      have hCY:=commit_yes tb rb x r P3 hx (hU.ext hE) hI.ok hc
      repeat'(first|(refine gY ?_;intros)|(refine hY ?_ ?_<;>intro hgd)|(refine jY ?_ ?_<;>intro _)|fail)
      refine cl_Y (hCY) ?_
      rintro⟨⟨mv,hmv⟩,cs',P4⟩ ⟨hE4,hcr',hcx'⟩
      dsimp only at hE4 hcr' hcx' ⊢
      refine ops_poolN (ty:=61) (n:=4) (v:=mv) (xs:=cs'.map cmV) (P:=P4) takeD ?_
      intro P5 hE5 hv5
      refine opsL_mapL (fun _ h=>relP_ext hE5 (b:=rb) (r:=r.play x.redo) (Take.out1 (A:=relP P4 rb (r.play x.redo)) takeD h)) ?_
      have hEE:=hE.trans (hE4.trans hE5)
      have hcl60':cs'.length≤60:=by have:=congrArg List.length hcx';rw[List.length_map]at this;have:=hx.len;omega
      have hcs':∀ c∈cs',ChI P5 c∧ChOk c.c:=fun c hm=>by
       have hO:ChOk c.c:=hxb.ch _ (by rw[← hcx'];exact List.mem_map_of_mem hm)
       exact⟨ChI.of ((hcr' c hm).ext hE5) hO,hO⟩
      refine ops_learn (VwIn.slice (by repeat(first|exact VwIn.here hv5|apply VwIn.there))) ?_
      rintro⟨pm,cm,rfl⟩
      repeat'(first|(refine gY ?_;intros)|(refine hY ?_ ?_<;>intro hgd)|(refine jY ?_ ?_<;>intro _)|fail)
      rename_i w2 hw2 w3 hw3
      have hps:(r.play x.redo).s=r.s:=by rw[hxb.redo];exact dones_s hxb.l
      rw[show ls.map cmtV++[(Value.slice pm (cs'.map cmV).length cm).cells.toList]=(ls++[((⟨.slice pm (cs'.map cmV).length cm,hmv⟩,cs'):Cmt)]).map cmtV by rw[List.map_append];rfl]
      have hok':SrOK P5 ⟨r.play x.redo,l++[x.l],none,w1⟩ ⟨vs,ts,wb,rb,⟨w3,hw3⟩,ls++[((⟨.slice pm (cs'.map cmV).length cm,hmv⟩,cs'):Cmt)],tb⟩:=⟨hy.vc,hy.sv.ext hEE,by show ts.map Tb.c=(r.play x.redo).s;rw[hps];exact hy.ts,fun y hm=>by
       rcases List.mem_append.1 hm with h1|h1
       ·exact(hy.cm y h1).ext hEE
       ·rw[List.mem_singleton.1 h1];exact⟨hv5,hcs',by show cs'.length≤199;omega⟩,by
       show(ls++[_]).map _=l++[x.l]
       rw[List.map_append,show ls.map (fun x=>x.2.map Cm.c)=l from hy.l]
       show l++[cs'.map Cm.c]=_
       rw[hcx']⟩
      refine cont_map (fun _ h=>empS_in h) ?_
      refine cont_map (fun _ h=>sr_in (P:=P5) (xb:=xb) (b:=b) hok' (Take.out takeD h)) ?_
      (refine rt_Y (y:=P5) (hrs:=Tryz.results11) (hv:=?_) (hφ:=?_))
      ·rfl
      ·exact hEE
     ·rw[if_pos he]
      dsimp only
      have e5:(!decide (e=0))=true:=by rw[decide_eq_false he];rfl
      repeat'(first|(refine gY ?_;intros)|(refine hY ?_ ?_<;>intro hgd)|(refine jY ?_ ?_<;>intro _)|fail)
      refine cont_map (fun _ h=>sr_in (P:=P3) (xb:=xb) (b:=b) (S:=⟨r,l,some x,w1⟩) (y:=⟨vs,ts,wb,rb,⟨.slice pl (ls.map cmtV).length cl,hlv⟩,ls,tb⟩) (SrOK.ext hE ⟨hy.vc,hy.sv,hy.ts,hy.cm,hy.l⟩) (Take.out takeD h)) ?_
      (refine rt_Y (y:=P3) (hrs:=Tryz.results11) (hv:=?_) (hφ:=?_))
      ·rfl
      ·exact hE
   ·rw[if_pos hc]
    dsimp only
    have e2:(!decide (x.checkT r=0))=true:=by rw[decide_eq_false hc];rfl
    refine spec_intro [] _ Tryz.func11 rfl Tryz.ntmps11 (by rfl) (fun w0 R=>?_)
    repeat'(first|(refine gY ?_;intros)|(refine hY ?_ ?_<;>intro hgd)|(refine jY ?_ ?_<;>intro _)|fail)
    refine cl_Y (hM) ?_
    intro _ _
    repeat'(first|(refine gY ?_;intros)|(refine hY ?_ ?_<;>intro hgd)|(refine jY ?_ ?_<;>intro _)|fail)
    refine cl_Y (hCk) ?_
    intro _ _
    repeat'(first|(refine gY ?_;intros)|(refine hY ?_ ?_<;>intro hgd)|(refine jY ?_ ?_<;>intro _)|fail)
    refine cont_map (fun _ h=>empS_in h) ?_
    refine cont_map (fun _ h=>sr_in (P:=P) (xb:=xb) (b:=b) (S:=⟨r,l,none,w⟩) (y:=⟨vs,ts,wb,rb,⟨lv,hlv⟩,ls,tb⟩) ⟨hy.vc,hy.sv,hy.ts,hy.cm,hy.l⟩ (Take.out takeD h)) ?_
    (refine rt_Y (y:=P) (hrs:=Tryz.results11) (hv:=?_) (hφ:=?_))
    ·rfl
    ·exact .refl _
 ·have e0:(!decide (w.fault=0))=true:=by rw[decide_eq_false h0];rfl
  rw[if_pos h0]
  dsimp only
  generalize htv:txV17 tb t=tv
  have hM:=sMayF xb b wb rb vs lv tv w hvc hlv h0
  refine spec_intro [] _ Tryz.func11 rfl Tryz.ntmps11 (by rfl) (fun w0 R=>?_)
  repeat'(first|(refine gY ?_;intros)|(refine hY ?_ ?_<;>intro hgd)|(refine jY ?_ ?_<;>intro _)|fail)
  refine cl_Y (hM) ?_
  intro _ _
  repeat'(first|(refine gY ?_;intros)|(refine hY ?_ ?_<;>intro hgd)|(refine jY ?_ ?_<;>intro _)|fail)
  subst htv
  refine cont_map (fun _ h=>sr_in (P:=P) (xb:=xb) (b:=b) hy (Take.out takeD h)) ?_
  (refine rt_Y (y:=P) (hrs:=Tryz.results11) (hv:=?_) (hφ:=?_))
  ·rfl
  ·exact .refl _
structure SrH(s:Sc)(S:Src):Prop where
 i:SrI S
 h:HistOk s S.l S.r
theorem SrH.begin{s:Sc}{S:Src}(h:SrH s S):SrH s S.begin.1:=by
 unfold Src.begin
 split
 ·exact h
 ·split
  ·exact h
  ·exact⟨⟨h.i.ok,h.i.wf,h.i.few,fun x hx=>by
   dsimp only at hx
   obtain rfl:=Option.some.inj hx
   exact⟨tx_new_ok h.i.ok,h.i.wf,rfl,.new _⟩⟩,h.h⟩
theorem SrH.doS{s:Sc}{S:Src}(h:SrH s S){o:Opr}(hl:o.row.length≤1000000)(hw:∀ v∈o.row,v.wf):SrH s (S.doS o).1:=by
 unfold Src.doS
 split
 ·exact h
 ·split
  ·rename_i x hx
   obtain⟨a,b,c,d⟩:=h.i.tx x hx
   refine⟨⟨h.i.ok,h.i.wf,h.i.few,fun y hy=>?_⟩,h.h⟩
   dsimp only at hy
   obtain rfl:=Option.some.inj hy
   refine⟨Tx.Ok.doT a hl hw,?_,?_,d.doT a.own b hw⟩
   ·unfold Tx.doT
    split
    ·exact b
    split
    ·exact b
    split
    ·exact b
    ·exact doOp_wf b hw
   ·unfold Tx.doT
    split
    ·exact c
    split
    ·exact c
    split
    ·exact c
    ·exact c
  ·exact h
theorem SrH.abortS{s:Sc}{S:Src}(h:SrH s S):SrH s S.abortS.1:=by
 unfold Src.abortS
 split
 ·exact⟨⟨h.i.ok,h.i.wf,h.i.few,fun x hx=>by cases hx⟩,h.h⟩
 ·exact h
theorem check_whole{x:Tx}{r:Rl}(h:x.checkT r=0):x.own.whole=true:=by
 unfold Tx.checkT at h
 split at h
 ·cases h
 split at h
 ·cases h
 ·cases hw:x.own.whole with
  |true=>rfl
  |false=>rw[hw]at h;cases h
theorem SrH.commit_ok{s:Sc}{S:Src}(h:SrH s S){x:Tx}(hx:S.t=some x)(hc:x.checkT S.r=0)(hl:S.l.length<300)(w:Wv):SrH s ⟨S.r.play x.redo,S.l++[x.l],none,w⟩:=by
 obtain⟨a,b,c,d⟩:=h.i.tx x hx
 have hw:=check_whole hc
 refine⟨⟨h.i.ok.play _,by rw[d.redo];exact b,by dsimp only;rw[List.length_append,List.length_singleton];omega,fun y hy=>by cases hy⟩,?_⟩
 refine⟨?_,by dsimp only;rw[List.length_append,List.length_singleton];omega,fun m hm=>?_⟩
 ·dsimp only
  rw[d.redo]
  exact hist_snoc h.h.h d.l hw
 ·dsimp only at hm
  rcases List.mem_append.1 hm with h1|h1
  ·exact h.h.ch m h1
  ·rw[List.mem_singleton.1 h1];exact⟨a.len,d.ch⟩
theorem SrH.new{s:Sc}(hc:checkS s=true)(w:Wv):SrH s ⟨⟨s,[],0⟩,[],none,w⟩:=⟨⟨Rl.Ok.new hc,new_wf,by simp,fun x hx=>by cases hx⟩,⟨rfl,by simp,fun l hl=>by simp at hl⟩⟩
theorem open_goodC{d:Dk}{w:Wv}{h:List BA}(g:WGoodC d w h)(hf:d.fuse= -1)(hs:d.still=false):∃ d1,openW d nC=(d1,0,h,lenT h)∧WGoodC d1 ⟨h.length,lenT h,0⟩ h:=by
 have ht:ftext nC d.files=framesOf h++(framesOf []).extract 0 0:=by rw[g.txt,ext_zero];exact ext_left0 h []
 obtain⟨j,e,g'⟩:=wal_textC g.ok g.loose hf hs g.okh (l:=[]) rfl ht
 have ej:h++([]:List BA).take j=h:=by simp
 rw[ej]at e g'
 exact⟨_,Prod.ext rfl e,g'⟩
theorem WGoodC.wok{d:Dk}{w:Wv}{h:List BA}(g:WGoodC d w h)(hb:h.length≤1000000000∧lenT h≤1000000000):WOk w:=⟨fun _=>by rw[g.wv];dsimp only;omega⟩
theorem rec_okS{n:Nat}{x:Tx}(hx:x.l.length≤60)(hc:∀ c∈x.l,ChOk c):allOk [recB n x.l]=true∧lenT [recB n x.l]≤200000:=by
 have h:(recB n x.l).size≤2+1652*x.l.length:=recT_le hc (by omega) _ (Nat.le_refl _)
 refine⟨?_,?_⟩
 ·simp[allOk];omega
 ·simp[lenT];omega
theorem check_ne{x:Tx}{r:Rl}(h:x.checkT r≠0):x.checkT r≠20:=by
 unfold Tx.checkT at h ⊢
 split
 ·decide
 split
 ·decide
 ·cases hw:x.own.whole with
  |true=>simp
  |false=>simp
theorem commitS_cases{s:Sc}{S:Src}{d:Dk}{recs:List BA}(h:SrH s S)(g:WGoodC d S.w recs):
  (∃ x,S.t=some x∧x.checkT S.r=0∧S.l.length<300∧(S.commitS d).2.2=(S.l.length+1,0)∧(∃ w1,(S.commitS d).1=⟨S.r.play x.redo,S.l++[x.l],none,w1⟩)∧WGoodC (S.commitS d).2.1 (S.commitS d).1.w (recs++[recB (S.l.length+1) x.l]))∨
  ((S.commitS d).2.2.1=0∧(S.commitS d).2.2.2≠0∧(S.commitS d).2.2.2≠20∧(S.commitS d).1.r=S.r∧(S.commitS d).1.l=S.l∧((S.commitS d).1.t=S.t∨(S.commitS d).1.t=none)∧WGoodC (S.commitS d).2.1 (S.commitS d).1.w recs)∨
  (∃ x,S.t=some x∧x.checkT S.r=0∧S.l.length<300∧(S.commitS d).2.2=(0,20)∧(S.commitS d).1.w.fault=20∧(S.commitS d).1.r=S.r∧(S.commitS d).1.l=S.l∧(S.commitS d).1.t=S.t∧WInvC (S.commitS d).2.1 recs [recB (S.l.length+1) x.l] false):=by
 have hw0:S.w.fault=0:=by rw[g.wv]
 unfold Src.commitS
 rw[if_neg (fun k=>k hw0)]
 cases ht:S.t with
 |none=>exact .inr (.inl ⟨rfl,by show(171:Int)≠0;decide,by show(171:Int)≠20;decide,rfl,rfl,.inl ht,g⟩)
 |some x=>
  obtain⟨a,b,c,dd⟩:=h.i.tx x ht
  dsimp only
  by_cases hc:x.checkT S.r=0
  ·rw[if_neg (fun k=>k hc)]
   by_cases h3:300≤S.l.length
   ·rw[if_pos h3]
    exact .inr (.inl ⟨rfl,by show(4:Int)≠0;decide,by show(4:Int)≠20;decide,rfl,rfl,.inl ht,g⟩)
   ·rw[if_neg h3]
    obtain⟨o1,o2⟩:=rec_okS (n:=S.l.length+1) a.len dd.ch
    rcases append_goodC g [recB (S.l.length+1) x.l] o1 (by omega)with⟨e,g'⟩|⟨e,g'⟩|⟨e,f',g',_⟩
    ·rw[if_neg (fun k=>k e)]
     exact .inl ⟨x,rfl,hc,by omega,rfl,⟨_,rfl⟩,g'⟩
    ·rw[if_pos (by rw[e];decide)]
     exact .inr (.inl ⟨rfl,by show(appendW _ _ _ _).2.2≠0;rw[e];decide,by show(appendW _ _ _ _).2.2≠20;rw[e];decide,rfl,rfl,.inl rfl,g'⟩)
    ·rw[if_pos (by rw[e];decide)]
     exact .inr (.inr ⟨x,rfl,hc,by omega,by show((0:Nat),(appendW _ _ _ _).2.2)=_;rw[e],f',rfl,rfl,rfl,g'⟩)
  ·rw[if_pos hc]
   exact .inr (.inl ⟨rfl,hc,check_ne hc,rfl,rfl,.inr rfl,g⟩)
def sV0:Dk:=(openW (newD 16384) nC).1
def sV1:Wv×Dk×Int:=appendW ⟨0,0,0⟩ sV0 nC [putSB twoS]
def sS0:Src:=⟨al0,[],none,sV1.1⟩
def sS1:Src:=sS0.begin.1
def sS2:Src:=(sS1.doS alO1).1
def sC3:Src×Dk×Nat×Int:=sS2.commitS sV1.2.1
def alO7:Opr:=⟨1,1,[nV 2,nV 7]⟩
def sS4:Src:=sC3.1.begin.1
def sS5:Src:=(sS4.doS alO7).1
def sC6:Src×Dk×Nat×Int:=sS5.commitS sC3.2.1
def sC7:Src×Dk×Nat×Int:=sC6.1.commitS sC6.2.1
theorem sV0_w:(openW (newD 16384) nC).2=(0,[],0):=by decide +kernel
theorem sV1_e:sV1.2.2=0:=by decide +kernel
theorem sS1_e:sS0.begin.2=0:=by decide +kernel
theorem sS2_e:(sS1.doS alO1).2=0:=by decide +kernel
theorem sC3_e:sC3.2.2.2=0:=by decide +kernel
theorem sC3_n:sC3.2.2.1=1:=by decide +kernel
theorem sS4_e:sC3.1.begin.2=0:=by decide +kernel
theorem sS5_e:(sS4.doS alO7).2=0:=by decide +kernel
theorem sC6_e:sC6.2.2.2=140:=by decide +kernel
theorem sC6_d:sC6.2.1.fuse= -1∧sC6.2.1.still=false∧sC6.1.l.length=1:=by decide +kernel
theorem sV0_g:WGoodC sV0 ⟨0,0,0⟩ []:=by
 obtain⟨j,e,g⟩:=wal_textC (d:=newD 16384) (.new (by decide) (by decide)) rfl rfl rfl (h:=[]) (l:=[]) (k:=0) rfl rfl (by rw[ext_zero];rfl)
 have ej:([]:List BA)++([]:List BA).take j=[]:=by simp
 rw[ej]at g
 exact g
theorem sV1_g:WGoodC sV1.2.1 sV1.1 [putSB twoS]:=by
 have hz:=putSB_size two_ok
 rcases append_goodC sV0_g [putSB twoS] (by simp[allOk];omega) (by simp[lenT];omega)with⟨_,g⟩|⟨e,_⟩|⟨e,_⟩
 ·exact g
 ·exact absurd (sV1_e.symm.trans e) (by decide)
 ·exact absurd (sV1_e.symm.trans e) (by decide)
theorem sS0_h:SrH twoS sS0:=SrH.new two_ok _
theorem sS2_h:SrH twoS sS2:=SrH.doS sS0_h.begin alO1_row.1 alO1_row.2
theorem begin_w(S:Src):S.begin.1.w=S.w:=by
 unfold Src.begin
 split
 ·rfl
 ·split<;>rfl
theorem doS_w(S:Src)(o:Opr):(S.doS o).1.w=S.w:=by
 unfold Src.doS
 split
 ·rfl
 ·split<;>rfl
theorem begin_l(S:Src):S.begin.1.l=S.l∧S.begin.1.r=S.r:=by
 unfold Src.begin
 split
 ·exact⟨rfl,rfl⟩
 ·split<;>exact⟨rfl,rfl⟩
theorem doS_l(S:Src)(o:Opr):(S.doS o).1.l=S.l∧(S.doS o).1.r=S.r:=by
 unfold Src.doS
 split
 ·exact⟨rfl,rfl⟩
 ·split<;>exact⟨rfl,rfl⟩
theorem sS2_w:sS2.w=sV1.1:=(doS_w _ _).trans (begin_w _)
theorem sC3_g:∃ l,sC3.1.l=[l]∧SrH twoS sC3.1∧WGoodC sC3.2.1 sC3.1.w [putSB twoS,recB 1 l]:=by
 have g:WGoodC sV1.2.1 sS2.w [putSB twoS]:=by rw[sS2_w];exact sV1_g
 have hl:sS2.l=[]:=(doS_l _ _).1.trans (begin_l _).1
 rcases commitS_cases sS2_h g with⟨x,h1,h2,h3,_,⟨w1,h5⟩,h6⟩|⟨_,h,_⟩|⟨x,_,_,_,h,_⟩
 ·refine⟨x.l,?_,?_,?_⟩
  ·show(sS2.commitS sV1.2.1).1.l=_
   rw[h5]
   show sS2.l++[x.l]=_
   rw[hl];rfl
  ·show SrH twoS (sS2.commitS sV1.2.1).1
   rw[h5]
   exact sS2_h.commit_ok h1 h2 h3 w1
  ·rw[hl]at h6
   exact h6
 ·exact absurd sC3_e h
 ·have:=sC3_e
  have e:sC3.2.2.2=20:=congrArg Prod.snd h
  rw[e]at this
  exact absurd this (by decide)
theorem sS5_h:SrH twoS sS5:=by
 obtain⟨l,_,h,_⟩:=sC3_g
 refine SrH.doS h.begin (by decide) (fun v hv=>?_)
 simp only[alO7,List.mem_cons,List.not_mem_nil,or_false]at hv
 rcases hv with rfl|rfl<;>exact nV_wf (by decide) (by decide)
theorem sS5_w:sS5.w=sC3.1.w:=(doS_w _ _).trans (begin_w _)
theorem sC6_g:∃ l,sC6.1.l=[l]∧SrH twoS sC6.1∧WGoodC sC6.2.1 sC6.1.w [putSB twoS,recB 1 l]:=by
 obtain⟨l,hl,h,g⟩:=sC3_g
 rw[← sS5_w]at g
 have hl5:sS5.l=[l]:=((doS_l _ _).1.trans (begin_l _).1).trans hl
 have h5:=sS5_h
 rcases commitS_cases h5 g with⟨x,h1,h2,h3,h4,_⟩|⟨_,_,_,e1,e2,e3,g'⟩|⟨x,_,_,_,h,_⟩
 ·have e:sC6.2.2.2=0:=congrArg Prod.snd h4
  exact absurd (sC6_e.symm.trans e) (by decide)
 ·refine⟨l,e2.trans hl5,⟨⟨?_,?_,?_,?_⟩,?_⟩,g'⟩
  ·show(sS5.commitS sC3.2.1).1.r.Ok;rw[e1];exact h5.i.ok
  ·show Rl.Wf (sS5.commitS sC3.2.1).1.r;rw[e1];exact h5.i.wf
  ·show(sS5.commitS sC3.2.1).1.l.length≤_;rw[e2];exact h5.i.few
  ·intro x hx
   have hx':(sS5.commitS sC3.2.1).1.t=some x:=hx
   show x.Ok∧Rl.Wf x.own∧x.over=false∧TxB (sS5.commitS sC3.2.1).1.r x
   rw[e1]
   rcases e3 with e3|e3
   ·exact h5.i.tx x (e3.symm.trans hx')
   ·rw[e3]at hx';cases hx'
  ·show HistOk twoS (sS5.commitS sC3.2.1).1.l (sS5.commitS sC3.2.1).1.r
   rw[e1,e2];exact h5.h
 ·have e:sC6.2.2.2=20:=congrArg Prod.snd h
  exact absurd (sC6_e.symm.trans e) (by decide)
theorem sC6_t:sC6.1.t.isNone=true:=by decide +kernel
theorem sC7_is:sC7=(sC6.1,sC6.2.1,0,171):=by
 obtain⟨l,_,h,g⟩:=sC6_g
 have hw0:sC6.1.w.fault=0:=by rw[g.wv]
 have ht:sC6.1.t=none:=Option.isNone_iff_eq_none.1 sC6_t
 show sC6.1.commitS sC6.2.1=_
 unfold Src.commitS
 rw[if_neg (fun k=>k hw0),ht]
theorem sO8:∃ l r d8,openW sC6.2.1 nC=(d8,0,putSB twoS::recsB 1 [l],lenT [putSB twoS,recB 1 l])∧HistOk twoS [l] r∧sC6.2.1.Ok∧sC6.2.1.loose=[]:=by
 obtain⟨l,hl,h,g⟩:=sC6_g
 obtain⟨a,b,_⟩:=sC6_d
 obtain⟨d8,e,_⟩:=open_goodC g a b
 have hh:=h.h
 rw[hl]at hh
 exact⟨l,_,d8,e,hh,g.ok,g.loose⟩
end Go.Proofs.YtmnafjonbeihiaaGreatDoor
