/- Texts merged: SxA SxB SxC. -/
import Derived.Test.YtmnafjonbeihiaaGreatDoorK10
import Derived.Test.YtmnafjonbeihiaaGreatDoorG31
set_option linter.unusedSimpArgs false
set_option linter.unusedVariables false
set_option maxRecDepth 100000
namespace Go.Proofs.YtmnafjonbeihiaaGreatDoor
open Go Go.Fx Go.Proofs Go.Pl
def recsS(s:Sc)(ls:List (List Chg)):List BA:=putSB s::recsB 1 ls
theorem recsS_snoc(s:Sc)(ls:List (List Chg))(l:List Chg):recsS s (ls++[l])=recsS s ls++[recB (ls.length+1) l]:=by
 unfold recsS
 rw[recsB_app,List.cons_append,Nat.add_comm];rfl
theorem recsS_len(s:Sc)(ls:List (List Chg)):(recsS s ls).length=ls.length+1:=by
 unfold recsS;rw[List.length_cons,recsB_len]
theorem recsB_lenT:∀ (ls:List (List Chg)) (n:Nat),(∀ l∈ls,l.length≤60∧∀ c∈l,ChOk c)→lenT (recsB n ls)≤200000*ls.length
 | [],_,_=>by simp[recsB,lenT]
 |l::ls,n,h=>by
  have h1:=recsB_lenT ls (n+1) (fun x hx=>h x (List.mem_cons_of_mem _ hx))
  obtain⟨a,b⟩:=h l (List.mem_cons_self ..)
  have h2:=(rec_okS (n:=n) (x:=⟨⟨[],[],0⟩,0,[],l,false⟩) a b).2
  dsimp only at h2
  rw[show recsB n (l::ls)=[recB n l]++recsB (n+1) ls from rfl,lenT_app,List.length_cons]
  omega
theorem recsS_lenT{s:Sc}(hc:checkS s=true){ls:List (List Chg)}{r:Rl}(h:HistOk s ls r):lenT (recsS s ls)≤61000000:=by
 have h1:=recsB_lenT ls 1 h.ch
 have h2:=(head_ok hc).2
 have h3:=h.few
 rw[show recsS s ls=[putSB s]++recsB 1 ls from rfl,lenT_app]
 omega
theorem WGoodC.fuse{d:Dk}{w:Wv}{h:List BA}(g:WGoodC d w h){n:Int}(hn:n≤9223372036854775807):WGoodC (d.fuseTo n) w h:=⟨g.ok.fuseTo hn,g.okh,g.loose,g.txt,g.wv⟩
theorem WInvC.fuse{d:Dk}{h m:List BA}{rs:Bool}(g:WInvC d h m rs){n:Int}(hn:n≤9223372036854775807):WInvC (d.fuseTo n) h m rs:=⟨g.ok.fuseTo hn,g.okh,g.okm,g.few,g.cr⟩
structure KC(s:Sc)(S:Src)(d:Dk)(u:Rl)(tr:Bool):Prop where
 h:SrH s S
 ok:d.Ok
 lo:d.loose.length≤1
 uo:u.Ok
 uw:Rl.Wf u
 w:(WGoodC d S.w (recsS s S.l)∧∀ x,S.t=some x→u=x.own)∨
  (S.w.fault≠0∧tr=true∧S.l.length<300∧∃ l:List Chg,l.length≤60∧(∀ c∈l,ChOk c)∧dones S.r l=some u∧u.whole=true∧WInvC d (recsS s S.l) [recB (S.l.length+1) l] false)
theorem KC.wok{s:Sc}{S:Src}{d:Dk}{u:Rl}{tr:Bool}(hc:checkS s=true)(h:KC s S d u tr):WOk S.w:=by
 rcases h.w with⟨g,_⟩|⟨h1,_⟩
 ·have:=recsS_lenT hc h.h.h
  have h2:=h.h.h.few
  exact g.wok ⟨by rw[recsS_len];omega,by omega⟩
 ·exact⟨fun e=>absurd e h1⟩
theorem KC.new{s:Sc}(hc:checkS s=true):KC s (fresh s) (freshD s) (fresh s).r false:=by
 have g:=fresh_g hc
 exact⟨SrH.new hc _,g.ok,by rw[g.loose];simp,Rl.Ok.new hc,new_wf,.inl ⟨g,fun x hx=>by cases hx⟩⟩
theorem begin_cases(S:Src):(S.begin.2=0∧S.w.fault=0∧S.begin.1={S with t:=some ⟨S.r,S.r.turns,[],[],false⟩})∨(S.begin.2≠0∧S.begin.1=S):=by
 unfold Src.begin
 split
 ·rename_i h;exact .inr ⟨h,rfl⟩
 ·rename_i h
  split
  ·exact .inr ⟨by simp,rfl⟩
  ·exact .inl ⟨rfl,Classical.not_not.1 h,rfl⟩
theorem KC.begin0{s:Sc}{S:Src}{d:Dk}{u:Rl}{tr:Bool}(h:KC s S d u tr)(h0:S.begin.2=0):KC s S.begin.1 d S.r tr:=by
 have hh:=h.h.begin
 rcases begin_cases S with⟨_,hf,e⟩|⟨h1,_⟩
 ·rw[e]at hh ⊢
  refine⟨hh,h.ok,h.lo,h.h.i.ok,h.h.i.wf,?_⟩
  rcases h.w with⟨g,_⟩|⟨h2,_⟩
  ·exact .inl ⟨g,fun x hx=>by dsimp only at hx;rw[← Option.some.inj hx]⟩
  ·exact absurd hf h2
 ·exact absurd h0 h1
theorem KC.begin1{s:Sc}{S:Src}{d:Dk}{u:Rl}{tr:Bool}(h:KC s S d u tr)(h0:S.begin.2≠0):KC s S.begin.1 d u tr:=by
 rcases begin_cases S with⟨h1,_⟩|⟨_,e⟩
 ·exact absurd h1 h0
 ·rw[e];exact h
theorem doT_cases17(x:Tx)(o:Opr):((x.doT o).2=0∧(x.doT o).1.own=(x.own.doOp o).1)∨((x.doT o).2≠0∧(x.doT o).1=x):=by
 unfold Tx.doT
 split
 ·exact .inr ⟨by simp,rfl⟩
 split
 ·exact .inr ⟨by simp,rfl⟩
 split
 ·rename_i h;exact .inr ⟨h,rfl⟩
 ·exact .inl ⟨rfl,rfl⟩
theorem doS_cases(S:Src)(o:Opr):(∃ x,S.t=some x∧(S.doS o).2=0∧S.w.fault=0∧(S.doS o).1={S with t:=some (x.doT o).1}∧(x.doT o).1.own=(x.own.doOp o).1)∨((S.doS o).2≠0∧(S.doS o).1=S):=by
 unfold Src.doS
 split
 ·rename_i h;exact .inr ⟨h,rfl⟩
 ·rename_i h
  split
  ·rename_i x hx
   rcases doT_cases17 x o with⟨a,b⟩|⟨a,b⟩
   ·exact .inl ⟨x,hx,a,Classical.not_not.1 h,rfl,b⟩
   ·refine .inr ⟨a,?_⟩
    dsimp only
    rw[b]
    obtain⟨r,l,t,w⟩:=S
    dsimp only at hx
    rw[hx]
  ·exact .inr ⟨by simp,rfl⟩
theorem KC.do0{s:Sc}{S:Src}{d:Dk}{u:Rl}{tr:Bool}(h:KC s S d u tr){o:Opr}(hl:o.row.length≤1000000)(hw:∀ v∈o.row,v.wf)(h0:(S.doS o).2=0):KC s (S.doS o).1 d (u.doOp o).1 tr:=by
 have hh:=h.h.doS hl hw
 rcases doS_cases S o with⟨x,hx,_,hf,e,eo⟩|⟨h1,_⟩
 ·rw[e]at hh ⊢
  refine⟨hh,h.ok,h.lo,h.uo.doOp o,doOp_wf h.uw hw,?_⟩
  rcases h.w with⟨g,hu⟩|⟨h2,_⟩
  ·refine .inl ⟨g,fun y hy=>?_⟩
   dsimp only at hy
   rw[← Option.some.inj hy,eo,hu x hx]
  ·exact absurd hf h2
 ·exact absurd h0 h1
theorem KC.do1{s:Sc}{S:Src}{d:Dk}{u:Rl}{tr:Bool}(h:KC s S d u tr){o:Opr}(h0:(S.doS o).2≠0):KC s (S.doS o).1 d u tr:=by
 rcases doS_cases S o with⟨x,_,h1,_⟩|⟨_,e⟩
 ·exact absurd h1 h0
 ·rw[e];exact h
theorem KC.abort{s:Sc}{S:Src}{d:Dk}{u:Rl}{tr:Bool}(h:KC s S d u tr):KC s S.abortS.1 d u tr∧S.abortS.1.r=S.r∧S.abortS.1.l=S.l:=by
 have hh:=h.h.abortS
 have e:S.abortS.1={S with t:=none}:=by
  unfold Src.abortS
  split
  ·rfl
  ·rename_i h1
   obtain⟨r,l,t,w⟩:=S
   dsimp only at h1
   rw[h1]
 rw[e]at hh ⊢
 refine⟨⟨hh,h.ok,h.lo,h.uo,h.uw,?_⟩,rfl,rfl⟩
 rcases h.w with⟨g,hu⟩|h2
 ·exact .inl ⟨g,fun y hy=>by cases hy⟩
 ·exact .inr h2
theorem KC.fuse{s:Sc}{S:Src}{d:Dk}{u:Rl}{tr:Bool}(h:KC s S d u tr){n:Int}(hn:n≤9223372036854775807):KC s S (d.fuseTo n) u tr:=by
 refine⟨h.h,h.ok.fuseTo hn,h.lo,h.uo,h.uw,?_⟩
 rcases h.w with⟨g,hu⟩|⟨h1,h2,h3,l,h4,h5,h6,h7,g⟩
 ·exact .inl ⟨g.fuse hn,hu⟩
 ·exact .inr ⟨h1,h2,h3,l,h4,h5,h6,h7,g.fuse hn⟩
theorem KC.commit{s:Sc}{S:Src}{d:Dk}{u:Rl}{tr:Bool}(h:KC s S d u tr):
  ((S.commitS d).2.2.2=0∧(S.commitS d).2.2.1=S.l.length+1∧(S.commitS d).1.l.length=S.l.length+1∧(S.commitS d).1.r=u∧KC s (S.commitS d).1 (S.commitS d).2.1 u tr)∨
  ((S.commitS d).2.2.2≠0∧(S.commitS d).1.l=S.l∧(S.commitS d).1.r=S.r∧KC s (S.commitS d).1 (S.commitS d).2.1 u (tr||decide ((S.commitS d).2.2.2=20))):=by
 rcases h.w with⟨g,hu⟩|⟨h1,h2,h3⟩
 ·rcases commitS_cases h.h g with⟨x,hx,hc,h3,e0,⟨w1,e⟩,g'⟩|⟨_,ne,_,er,el,et,g'⟩|⟨x,hx,hc,h3,e20,hf,er,el,et,g'⟩
  ·obtain⟨a,b,c,dd⟩:=h.h.i.tx x hx
   have eu:S.r.play x.redo=u:=by rw[dd.redo,hu x hx]
   have hh:=h.h.commit_ok hx hc h3 w1
   refine .inl ⟨by rw[e0],by rw[e0],by rw[e];simp,by rw[e];exact eu,?_⟩
   refine⟨by rw[e];exact hh,g'.ok,by rw[g'.loose];simp,h.uo,h.uw,.inl ⟨?_,fun y hy=>by rw[e]at hy;cases hy⟩⟩
   have el:(S.commitS d).1.l=S.l++[x.l]:=by rw[e]
   rw[el,recsS_snoc]
   exact g'
  ·refine .inr ⟨ne,el,er,?_⟩
   have hh:SrH s (S.commitS d).1:=by
    refine⟨⟨by rw[er];exact h.h.i.ok,by rw[er];exact h.h.i.wf,by rw[el];exact h.h.i.few,fun y hy=>?_⟩,by rw[el,er];exact h.h.h⟩
    rw[er]
    rcases et with et|et
    ·rw[et]at hy;exact h.h.i.tx y hy
    ·rw[et]at hy;cases hy
   refine⟨hh,g'.ok,by rw[g'.loose];simp,h.uo,h.uw,.inl ⟨by rw[el];exact g',fun y hy=>?_⟩⟩
   rcases et with et|et
   ·rw[et]at hy;exact hu y hy
   ·rw[et]at hy;cases hy
  ·obtain⟨a,b,c,dd⟩:=h.h.i.tx x hx
   have hw:=check_whole hc
   refine .inr ⟨by rw[e20];decide,el,er,?_⟩
   have hh:SrH s (S.commitS d).1:=by
    refine⟨⟨by rw[er];exact h.h.i.ok,by rw[er];exact h.h.i.wf,by rw[el];exact h.h.i.few,fun y hy=>?_⟩,by rw[el,er];exact h.h.h⟩
    rw[er]
    rw[et]at hy;exact h.h.i.tx y hy
   refine⟨hh,g'.ok,g'.few,h.uo,h.uw,.inr ⟨by rw[hf];decide,by rw[e20];simp,by rw[el];exact h3,x.l,a.len,dd.ch,?_,?_,?_⟩⟩
   ·rw[er,hu x hx];exact dd.l
   ·rw[hu x hx];exact hw
   ·rw[el];exact g'
 ·have e:S.commitS d=(S,d,0,S.w.fault):=by unfold Src.commitS;rw[if_pos h1]
  rw[e]
  refine .inr ⟨h1,rfl,rfl,?_⟩
  exact⟨h.h,h.ok,h.lo,h.uo,h.uw,.inr ⟨h1,by rw[h2];rfl,h3⟩⟩
theorem KC.crash{s:Sc}{S:Src}{d:Dk}{u:Rl}{tr:Bool}(hc:checkS s=true)(h:KC s S d u tr)(a b:Int):
  ∃ d1 sz ls r,openW (d.crash a b) nC=(d1,0,putSB s::recsB 1 ls,sz)∧HistOk s ls r∧(d.crash a b).Ok∧(d.crash a b).loose.length≤1∧((ls.length=S.l.length∧r=S.r)∨(tr=true∧ls.length=S.l.length+1∧r=u))∧
   KC s ⟨r,ls,none,⟨((ls.length+1:Nat):Int),(sz:Int),0⟩⟩ d1 u false:=by
 have hok:=h.ok.crash a b
 have fin:∀ (d1:Dk) (ls:List (List Chg)) (r:Rl),(openW (d.crash a b) nC).2=(0,recsS s ls,lenT (recsS s ls))→WGoodC (openW (d.crash a b) nC).1 ⟨(recsS s ls).length,lenT (recsS s ls),0⟩ (recsS s ls)→HistOk s ls r→r.Ok→Rl.Wf r→
   openW (d.crash a b) nC=((openW (d.crash a b) nC).1,0,putSB s::recsB 1 ls,lenT (recsS s ls))∧KC s ⟨r,ls,none,⟨((ls.length+1:Nat):Int),((lenT (recsS s ls):Nat):Int),0⟩⟩ (openW (d.crash a b) nC).1 u false:=by
  intro d1 ls r e g hH ho hwf
  refine⟨Prod.ext rfl e,⟨⟨⟨ho,hwf,hH.few,fun x hx=>by cases hx⟩,hH⟩,g.ok,by rw[g.loose];simp,h.uo,h.uw,.inl ⟨?_,fun x hx=>by cases hx⟩⟩⟩
  rw[recsS_len]at g
  exact g
 rcases h.w with⟨g,hu⟩|⟨h1,h2,h3,l,h4,h5,h6,h7,g⟩
 ·obtain⟨r1,e1,g1,hr⟩:=open_invC (g.inv [] rfl false) a b
  have er:r1=recsS s S.l:=by
   rcases hr with⟨j,hj⟩|⟨hh,_⟩
   ·rw[hj];simp
   ·cases hh
  subst er
  obtain⟨f1,f2⟩:=fin d S.l S.r e1 g1 h.h.h h.h.i.ok h.h.i.wf
  exact⟨_,_,S.l,S.r,f1,h.h.h,hok,by simp[Dk.crash],.inl ⟨rfl,rfl⟩,f2⟩
 ·obtain⟨r1,e1,g1,hr⟩:=open_invC g a b
  rcases hr with⟨j,hj⟩|⟨hh,_⟩
  ·cases j with
   |zero=>
    have er:r1=recsS s S.l:=by rw[hj];simp
    subst er
    obtain⟨f1,f2⟩:=fin d S.l S.r e1 g1 h.h.h h.h.i.ok h.h.i.wf
    exact⟨_,_,S.l,S.r,f1,h.h.h,hok,by simp[Dk.crash],.inl ⟨rfl,rfl⟩,f2⟩
   |succ j=>
    have er:r1=recsS s (S.l++[l]):=by rw[hj,recsS_snoc];simp
    subst er
    have hH:HistOk s (S.l++[l]) u:=by
     refine⟨hist_snoc h.h.h.h h6 h7,by rw[List.length_append,List.length_singleton];omega,fun m hm=>?_⟩
     rcases List.mem_append.1 hm with hm|hm
     ·exact h.h.h.ch m hm
     ·rw[List.mem_singleton.1 hm];exact⟨h4,h5⟩
    obtain⟨f1,f2⟩:=fin d (S.l++[l]) u e1 g1 hH h.uo h.uw
    exact⟨_,_,S.l++[l],u,f1,hH,hok,by simp[Dk.crash],.inr ⟨h2,by simp,rfl⟩,f2⟩
  ·cases hh
theorem sAbort_spec(xb b:Nat)(S:Src)(P:HProp):FSpec Tryz.prog 14 [.pointer (some ⟨xb,0,none⟩)] [srP P xb b S] Unit (fun _=>True) (fun _=>.int .i64 S.abortS.2) (fun _=>[srP P xb b S.abortS.1]):=by
 obtain⟨r,l,t,w⟩:=S
 refine fspec_ex ?_
 rintro⟨⟨vs,ts,wb,rb,⟨lv,hlv⟩,ls,tb⟩,hy⟩
 unfold Src.abortS srL
 dsimp only
 have hvc:=hy.vc
 dsimp only at hvc
 cases t with
 |some x=>
  dsimp only[txV17,opP]
  refine spec_intro [] _ Tryz.func14 rfl Tryz.ntmps14 (by rfl) (fun w0 R=>?_)
  repeat'(first|(refine gY ?_;intros)|(refine hY ?_ ?_<;>intro hgd)|(refine jY ?_ ?_<;>intro _)|fail)
  refine cont_map (fun _ h=>empS_in h) ?_
  refine cont_map (fun _ h=>sr_in (P:=P) (xb:=xb) (b:=b) (S:=⟨r,l,none,w⟩) (y:=⟨vs,ts,wb,rb,⟨lv,hlv⟩,ls,tb⟩) ⟨hy.vc,hy.sv,hy.ts,hy.cm,hy.l⟩ (Take.out takeD h)) ?_
  (refine rt_Y (y:=()) (hrs:=Tryz.results14) (hv:=?_) (hφ:=?_))
  ·rfl
  ·trivial
 |none=>
  dsimp only[txV17,opP]
  refine spec_intro [] _ Tryz.func14 rfl Tryz.ntmps14 (by rfl) (fun w0 R=>?_)
  repeat'(first|(refine gY ?_;intros)|(refine hY ?_ ?_<;>intro hgd)|(refine jY ?_ ?_<;>intro _)|fail)
  refine cont_map (fun _ h=>sr_in (P:=P) (xb:=xb) (b:=b) hy (Take.out takeD h)) ?_
  (refine rt_Y (y:=()) (hrs:=Tryz.results14) (hv:=?_) (hφ:=?_))
  ·rfl
  ·trivial
structure CG where
 i:Nat
 xb:Nat
 hb:Nat
 ub:Nat
 S:Src
 d:Dk
 hv:Rl
 u:Rl
 n:Nat
 tr:Bool
 P:HProp
set_option maxHeartbeats 64000000 in
theorem SourceCrash_spec(vs:Value)(ts:List Tb)(va:Value)(az:List Zs)(A:HProp)(hU:UT A)(hvc:vs.oneCell'=true)(hS:SVr A vs ts)(ha:ZsR A va az)(hwf:∀ a∈az,∀ v∈a.o.row,v.wf)(hnb:∀ a∈az,a.n≤9223372036854775807):
  FSpec Tryz.prog 5 [.agg #[vs],va] [A] HProp (fun P'=>Ext A P') (fun _=>.bool true) (fun P'=>[P']):=by
 have la:(az.map zsV).length=az.length:=by simp
 have lt:(ts.map tbV).length=ts.length:=by simp
 have hHv:=heavy17_spec vs va ts az A hS ha
 refine spec_intro [] _ Tryz.func5 rfl Tryz.ntmps5 (by rfl) (fun w0 R=>?_)
 refine ok_learn (VwIn.slice (VwIn.here ha.vw)) ?_
 rintro⟨pa,ca,rfl⟩
 repeat'(first|(refine gY ?_;intros)|(refine hY ?_ ?_<;>intro hgd)|(refine jY ?_ ?_<;>intro _)|fail)
 rename_i b2
 refine cl_Y (hHv) ?_
 rintro⟨y,P0⟩ ⟨hE0,hy⟩
 dsimp only at hE0 hy ⊢
 have hU0:=hU.ext hE0
 have hS0:=hS.ext hE0
 have hMy:=rMay_spec vs ts P0 hvc hS0.sv0
 cases y with
 |true=>
  repeat'(first|(refine gY ?_;intros)|(refine hY ?_ ?_<;>intro hgd)|(refine jY ?_ ?_<;>intro _)|fail)
  refine cl_Y (alive17_spec P0 hU0) ?_
  intro P' hE
  repeat'(first|(refine gY ?_;intros)|(refine hY ?_ ?_<;>intro hgd)|(refine jY ?_ ?_<;>intro _)|fail)
  (refine rt_Y (y:=P') (hrs:=Tryz.results5) (hv:=?_) (hφ:=?_))
  ·rfl
  ·exact hE0.trans hE
 |false=>
 obtain⟨hsm,⟨_,hso⟩,h150⟩:=hy rfl
 cases hc:checkS (ts.map Tb.c)with
 |false=>
  rw[hc]at hMy
  repeat'(first|(refine gY ?_;intros)|(refine hY ?_ ?_<;>intro hgd)|(refine jY ?_ ?_<;>intro _)|fail)
  refine cl_Y (hMy) ?_
  intro _ _
  repeat'(first|(refine gY ?_;intros)|(refine hY ?_ ?_<;>intro hgd)|(refine jY ?_ ?_<;>intro _)|fail)
  refine cl_Y (alive17_spec P0 hU0) ?_
  intro P' hE
  repeat'(first|(refine gY ?_;intros)|(refine hY ?_ ?_<;>intro hgd)|(refine jY ?_ ?_<;>intro _)|fail)
  (refine rt_Y (y:=P') (hrs:=Tryz.results5) (hv:=?_) (hφ:=?_))
  ·rfl
  ·exact hE0.trans hE
 |true=>
 rw[hc]at hMy
 have hn:=new_spec 262144 (by decide) (by decide)
 have hO:=fun(b:Nat)=>sOpen_new b (newD 262144) (freshD (ts.map Tb.c)) (fresh (ts.map Tb.c)).w vs ts P0 hvc hU0 hS0.sv0 hc (.new (by decide) (by decide)) (by simp[newD]) dN18_w dN18_g.ok (by show dN18.loose.length≤_;rw[dN18_g.loose];simp) (Prod.ext rfl (Prod.ext rfl (fresh_e hc).1))
 have hK0:=KC.new hc
 rw[show(⟨⟨ts.map Tb.c,[],0⟩,[],none,(fresh (ts.map Tb.c)).w⟩:Src)=fresh (ts.map Tb.c)from rfl]at hO
 have hr0:(fresh (ts.map Tb.c)).r=⟨ts.map Tb.c,[],0⟩:=rfl
 have hl0:(fresh (ts.map Tb.c)).l.length=0:=rfl
 generalize fresh (ts.map Tb.c)=S0 at hO hK0 hr0 hl0
 generalize freshD (ts.map Tb.c)=D0 at hO hK0
 generalize newD 262144=dn at hn hO
 repeat'(first|(refine gY ?_;intros)|(refine hY ?_ ?_<;>intro hgd)|(refine jY ?_ ?_<;>intro _)|fail)
 refine cl_Y (hMy) ?_
 intro _ _
 repeat'(first|(refine gY ?_;intros)|(refine hY ?_ ?_<;>intro hgd)|(refine jY ?_ ?_<;>intro _)|fail)
 refine cl_Y (hn) ?_
 intro b _
 repeat'(first|(refine gY ?_;intros)|(refine hY ?_ ?_<;>intro hgd)|(refine jY ?_ ?_<;>intro _)|fail)
 refine cl_Y (hO b) ?_
 rintro⟨xb,P1⟩ hE1
 dsimp only at hE1 ⊢
 have hE01:=hE0.trans hE1
 have hNw:=relNew_spec vs ts P1 (hS.ext hE01).sv0 hc
 repeat'(first|(refine gY ?_;intros)|(refine hY ?_ ?_<;>intro hgd)|(refine jY ?_ ?_<;>intro _)|fail)
 refine cl_Y (hNw) ?_
 rintro⟨hb,P2⟩ hE2
 dsimp only at hE2 ⊢
 refine opsL_mapL (fun _ h=>srP_ext hE2 (xb:=xb) (b:=b) (S:=S0) (Take.out1 (A:=srP P1 xb b S0) takeD h)) ?_
 repeat'(first|(refine gY ?_;intros)|(refine hY ?_ ?_<;>intro hgd)|(refine jY ?_ ?_<;>intro _)|fail)
 refine cl_Y (relCopy_spec hb ⟨ts.map Tb.c,[],0⟩ P2) ?_
 intro ub _
 repeat'(first|(refine gY ?_;intros)|(refine hY ?_ ?_<;>intro hgd)|(refine jY ?_ ?_<;>intro _)|fail)
 rw[← hr0]
 refine ok_map (L':=[srP P2 xb b S0,relP P2 hb S0.r,relP P2 ub S0.r,diskP b D0,P2,pts b2 (.cells [vs].toArray 29)]++R) entD ?_
 have hE02:=hE01.trans hE2
 refine ok_loop' (γ:=CG) (fun g ρ L=>g.i≤az.length∧KC (ts.map Tb.c) g.S g.d g.u g.tr∧g.hv=g.S.r∧g.n=g.S.l.length∧Ext P2 g.P∧
   Knows ρ [(1,.slice pa (az.map zsV).length ca),(2,.pointer (some ⟨b2,0,none⟩)),(5,.pointer (some ⟨b,0,none⟩)),(7,.pointer (some ⟨g.xb,0,none⟩)),(9,.pointer (some ⟨g.hb,0,none⟩)),(11,.pointer (some ⟨g.ub,0,none⟩)),(12,.int .u64 (g.n:Int)),(13,.bool g.tr),(14,.int .i64 (g.i:Int))]∧
   L=[srP g.P g.xb b g.S,relP g.P g.hb g.hv,relP g.P g.ub g.u,diskP b g.d,g.P,pts b2 (.cells [vs].toArray 29)]++R)
  (fun g=>az.length-g.i) ⟨0,xb,hb,ub,S0,D0,S0.r,S0.r,0,false,P2⟩ ⟨Nat.zero_le _,hK0,rfl,hl0.symm,.refl _,⟨rfl,rfl,rfl,rfl,rfl,rfl,rfl,rfl,rfl,trivial⟩,rfl⟩ ?_
 clear hK0 hO hMy hn hHv hNw hr0 hl0
 rintro⟨i,xb,hb,ub,S,d,hv,u,n,tr,P⟩ ρ L ⟨hi,hK,ehv,en,hE,hk,rfl⟩
 dsimp only at hi hK ehv en hE hk ⊢
 refine ok_regs hk ?_
 have hUP:=hU.ext (hE02.trans hE)
 have hfew:=hK.h.h.few
 cases t1:decide ((i:Int)<((az.map zsV).length:Int))with
 |false=>
  repeat'(first|(refine gY ?_;intros)|(refine hY ?_ ?_<;>intro hgd)|(refine jY ?_ ?_<;>intro _)|fail)
  refine cl_Y (alive17_spec P hUP) ?_
  intro P' hE'
  repeat'(first|(refine gY ?_;intros)|(refine hY ?_ ?_<;>intro hgd)|(refine jY ?_ ?_<;>intro _)|fail)
  (refine rt_Y (y:=P') (hrs:=Tryz.results5) (hv:=?_) (hφ:=?_))
  ·rfl
  ·exact hE02.trans (hE.trans hE')
 |true=>
  have h0:i<az.length:=by have:=of_decide_eq_true t1;omega
  have hx:(az.map zsV)[i]? =some (zsV az[i]):=by rw[List.getElem?_map,List.getElem?_eq_getElem h0];rfl
  have hn1:i<(az.map zsV).length:=by omega
  have hvA:=(hE02.trans hE).vw ha.vw
  have hom:=((ha.op _ (List.getElem_mem h0)).ext (hE02.trans hE)).vw
  have hwf1:=hwf _ (List.getElem_mem h0)
  have hnb1:=hnb _ (List.getElem_mem h0)
  have hln:=hso az[i].o (List.mem_map_of_mem (List.getElem_mem h0))
  generalize az[i]=x at hx hom hwf1 hln hnb1
  obtain⟨xd,⟨ok,ot,⟨ov,hov⟩,ol⟩,xn,xm⟩:=x
  dsimp only[zsV]at hx hom hwf1 hln hnb1
  have hol:ol.length≤1000000:=by omega
  refine ok_learn (VwIn.base (n:=6) (xs:=az.map zsV) (VwIn.there (VwIn.there (VwIn.there (VwIn.there (VwIn.here hvA))))) (by intro e;rw[e]at hn1;simp at hn1)) ?_
  rintro⟨bu,ou,rfl⟩
  refine ok_learn (VwIn.slice (VwIn.there (VwIn.there (VwIn.there (VwIn.there (VwIn.here hom)))))) ?_
  rintro⟨px,cx,rfl⟩
  have hwn:IntKind.u64.wrap (arith BinOp.add (n:Int) 1)=((n+1:Nat):Int):=by show IntKind.u64.wrap ((n:Int)+1)=_;rw[show((n:Int)+1)=((n+1:Nat):Int)by omega,wrap_u64];omega
  cases c0:decide (xd=0)with
  |true=>
   have hB:=sBegin_spec xb b S P
   have k0:=hK.begin0
   have k1:=hK.begin1
   obtain⟨hl',hr'⟩:=begin_l S
   generalize S.begin=Sb at hB k0 k1 hl' hr'
   cases e0:decide (Sb.2=0)with
   |true=>
    have k:=k0 (of_decide_eq_true e0)
    repeat'(first|(refine gY ?_;intros)|(refine hY ?_ ?_<;>intro hgd)|(refine jY ?_ ?_<;>intro _)|fail)
    refine cl_Y (hB) ?_
    intro _ _
    repeat'(first|(refine gY ?_;intros)|(refine hY ?_ ?_<;>intro hgd)|(refine jY ?_ ?_<;>intro _)|fail)
    refine cl_Y (relCopy_spec hb hv P) ?_
    intro ub' _
    repeat'(first|(refine gY ?_;intros)|(refine hY ?_ ?_<;>intro hgd)|(refine jY ?_ ?_<;>intro _)|fail)
    refine cont_map (L':=[srP P xb b Sb.1,relP P hb hv,relP P ub' hv,diskP b d,P,pts b2 (.cells [vs].toArray 29)]++R) entD ?_
    exact cont_back ⟨i+1,xb,hb,ub',Sb.1,d,hv,hv,n,tr,P⟩ ⟨h0,by dsimp only;rw[ehv];exact k,by dsimp only;rw[hr'];exact ehv,by dsimp only;rw[hl'];exact en,hE,⟨rfl,rfl,rfl,rfl,rfl,rfl,rfl,rfl,rfl,trivial⟩,rfl⟩ (by dsimp only;omega)
   |false=>
    have k:=k1 (of_decide_eq_false e0)
    repeat'(first|(refine gY ?_;intros)|(refine hY ?_ ?_<;>intro hgd)|(refine jY ?_ ?_<;>intro _)|fail)
    refine cl_Y (hB) ?_
    intro _ _
    repeat'(first|(refine gY ?_;intros)|(refine hY ?_ ?_<;>intro hgd)|(refine jY ?_ ?_<;>intro _)|fail)
    refine cont_map (L':=[srP P xb b Sb.1,relP P hb hv,relP P ub u,diskP b d,P,pts b2 (.cells [vs].toArray 29)]++R) entD ?_
    exact cont_back ⟨i+1,xb,hb,ub,Sb.1,d,hv,u,n,tr,P⟩ ⟨h0,k,by dsimp only;rw[hr'];exact ehv,by dsimp only;rw[hl'];exact en,hE,⟨rfl,rfl,rfl,rfl,rfl,rfl,rfl,rfl,rfl,trivial⟩,rfl⟩ (by dsimp only;omega)
  |false=>
  cases c1:decide (xd=1)with
  |true=>
   have hD:=sDo_spec xb b S ⟨ok,ot,ol⟩ (.slice px (ol.map valV).length cx) P hK.h.i hUP hom hov hwf1 hol
   have hRd:=fun(Q:HProp) (e:Ext P Q)=>relDo_spec ub u ⟨ok,ot,ol⟩ (.slice px (ol.map valV).length cx) Q hK.uo (hUP.ext e) (e.vw hom) hov hwf1 hol
   have k0:=hK.do0 (o:=⟨ok,ot,ol⟩) hol hwf1
   have k1:=hK.do1 (o:=⟨ok,ot,ol⟩)
   obtain⟨hl',hr'⟩:=doS_l S ⟨ok,ot,ol⟩
   generalize S.doS ⟨ok,ot,ol⟩=Sb at hD k0 k1 hl' hr'
   generalize u.doOp ⟨ok,ot,ol⟩=dd at hRd k0
   cases e0:decide (Sb.2=0)with
   |true=>
    have k:=k0 (of_decide_eq_true e0)
    repeat'(first|(refine gY ?_;intros)|(refine hY ?_ ?_<;>intro hgd)|(refine jY ?_ ?_<;>intro _)|fail)
    refine cl_Y (hD) ?_
    intro P3 hE3
    refine opsL_mapL (fun _ h=>relP_ext hE3 (b:=hb) (r:=hv) (Take.out1 (A:=relP P hb hv) takeD h)) ?_
    refine opsL_mapL (fun _ h=>relP_ext hE3 (b:=ub) (r:=u) (Take.out1 (A:=relP P ub u) takeD h)) ?_
    repeat'(first|(refine gY ?_;intros)|(refine hY ?_ ?_<;>intro hgd)|(refine jY ?_ ?_<;>intro _)|fail)
    refine cl_Y (hRd P3 hE3) ?_
    rintro⟨⟨v1,hv1⟩,⟨v2,hv2⟩,P4⟩ ⟨hE4,_⟩
    dsimp only at hE4 ⊢
    refine opsL_mapL (fun _ h=>relP_ext hE4 (b:=hb) (r:=hv) (Take.out1 (A:=relP P3 hb hv) takeD h)) ?_
    refine opsL_mapL (fun _ h=>srP_ext hE4 (xb:=xb) (b:=b) (S:=Sb.1) (Take.out1 (A:=srP P3 xb b Sb.1) takeD h)) ?_
    repeat'(first|(refine gY ?_;intros)|(refine hY ?_ ?_<;>intro hgd)|(refine jY ?_ ?_<;>intro _)|fail)
    refine cont_map (L':=[srP P4 xb b Sb.1,relP P4 hb hv,relP P4 ub dd.1,diskP b d,P4,pts b2 (.cells [vs].toArray 29)]++R) entD ?_
    exact cont_back ⟨i+1,xb,hb,ub,Sb.1,d,hv,dd.1,n,tr,P4⟩ ⟨h0,k,by dsimp only;rw[hr'];exact ehv,by dsimp only;rw[hl'];exact en,hE.trans (hE3.trans hE4),⟨rfl,rfl,rfl,rfl,rfl,rfl,rfl,rfl,rfl,trivial⟩,rfl⟩ (by dsimp only;omega)
   |false=>
    have k:=k1 (of_decide_eq_false e0)
    repeat'(first|(refine gY ?_;intros)|(refine hY ?_ ?_<;>intro hgd)|(refine jY ?_ ?_<;>intro _)|fail)
    refine cl_Y (hD) ?_
    intro P3 hE3
    refine opsL_mapL (fun _ h=>relP_ext hE3 (b:=hb) (r:=hv) (Take.out1 (A:=relP P hb hv) takeD h)) ?_
    refine opsL_mapL (fun _ h=>relP_ext hE3 (b:=ub) (r:=u) (Take.out1 (A:=relP P ub u) takeD h)) ?_
    repeat'(first|(refine gY ?_;intros)|(refine hY ?_ ?_<;>intro hgd)|(refine jY ?_ ?_<;>intro _)|fail)
    refine cont_map (L':=[srP P3 xb b Sb.1,relP P3 hb hv,relP P3 ub u,diskP b d,P3,pts b2 (.cells [vs].toArray 29)]++R) entD ?_
    exact cont_back ⟨i+1,xb,hb,ub,Sb.1,d,hv,u,n,tr,P3⟩ ⟨h0,k,by dsimp only;rw[hr'];exact ehv,by dsimp only;rw[hl'];exact en,hE.trans hE3,⟨rfl,rfl,rfl,rfl,rfl,rfl,rfl,rfl,rfl,trivial⟩,rfl⟩ (by dsimp only;omega)
  |false=>
  cases c2:decide (xd=2)with
  |true=>
   have hC:=sCommit_spec xb b S d P hK.h.i hUP hK.ok (by have:=hK.lo;omega) (hK.wok hc)
   have kc:=hK.commit
   generalize S.commitS d=Sb at hC kc
   rcases kc with⟨z,m1,l1,r1,k⟩|⟨z,l1,r1,k⟩
   ·have e0:decide (Sb.2.2.2=0)=true:=decide_eq_true z
    have e20:decide (Sb.2.2.2=20)=false:=by rw[z];rfl
    rw[m1,← en]at hC
    have e3:(!decide (((n+1:Nat):Int)=IntKind.u64.wrap (arith BinOp.add (n:Int) 1)))=false:=by rw[hwn];simp
    have k':KC (ts.map Tb.c) Sb.1 Sb.2.1 u (tr||decide (Sb.2.2.2=20)):=by rw[e20,Bool.or_false];exact k
    clear k hK hk
    cases tr<;>
    (
     repeat'(first|(refine gY ?_;intros)|(refine hY ?_ ?_<;>intro hgd)|(refine jY ?_ ?_<;>intro _)|fail)
     refine cl_Y (hC) ?_
     intro P3 hE3
     refine opsL_mapL (fun _ h=>relP_ext hE3 (b:=ub) (r:=u) (Take.out1 (A:=relP P ub u) takeD h)) ?_
     repeat'(first|(refine gY ?_;intros)|(refine hY ?_ ?_<;>intro hgd)|(refine jY ?_ ?_<;>intro _)|fail)
     refine cl_Y (relCopy_spec ub u P3) ?_
     intro hb' _
     repeat'(first|(refine gY ?_;intros)|(refine hY ?_ ?_<;>intro hgd)|(refine jY ?_ ?_<;>intro _)|fail)
     refine cont_map (L':=[srP P3 xb b Sb.1,relP P3 hb' u,relP P3 ub u,diskP b Sb.2.1,P3,pts b2 (.cells [vs].toArray 29)]++R) entD ?_
     rw[hwn]
     exact cont_back ⟨i+1,xb,hb',ub,Sb.1,Sb.2.1,u,u,n+1,_,P3⟩ ⟨h0,by dsimp only;exact k',r1.symm,by dsimp only;rw[l1,en],hE.trans hE3,⟨rfl,rfl,rfl,rfl,rfl,rfl,rfl,rfl,rfl,trivial⟩,rfl⟩ (by dsimp only;omega)
    )
   ·have e0:decide (Sb.2.2.2=0)=false:=decide_eq_false z
    clear hK hk
    cases tr<;>
    (
     repeat'(first|(refine gY ?_;intros)|(refine hY ?_ ?_<;>intro hgd)|(refine jY ?_ ?_<;>intro _)|fail)
     refine cl_Y (hC) ?_
     intro P3 hE3
     refine opsL_mapL (fun _ h=>relP_ext hE3 (b:=hb) (r:=hv) (Take.out1 (A:=relP P hb hv) takeD h)) ?_
     refine opsL_mapL (fun _ h=>relP_ext hE3 (b:=ub) (r:=u) (Take.out1 (A:=relP P ub u) takeD h)) ?_
     repeat'(first|(refine gY ?_;intros)|(refine hY ?_ ?_<;>intro hgd)|(refine jY ?_ ?_<;>intro _)|fail)
     refine cont_map (L':=[srP P3 xb b Sb.1,relP P3 hb hv,relP P3 ub u,diskP b Sb.2.1,P3,pts b2 (.cells [vs].toArray 29)]++R) entD ?_
     exact cont_back ⟨i+1,xb,hb,ub,Sb.1,Sb.2.1,hv,u,n,_,P3⟩ ⟨h0,by dsimp only;exact k,by dsimp only;rw[r1];exact ehv,by dsimp only;rw[l1];exact en,hE.trans hE3,⟨rfl,rfl,rfl,rfl,rfl,rfl,rfl,rfl,rfl,trivial⟩,rfl⟩ (by dsimp only;omega)
    )
  |false=>
  cases c3:decide (xd=3)with
  |true=>
   have hAb:=sAbort_spec xb b S P
   obtain⟨k,hr',hl'⟩:=hK.abort
   generalize S.abortS=Sb at hAb k hr' hl'
   repeat'(first|(refine gY ?_;intros)|(refine hY ?_ ?_<;>intro hgd)|(refine jY ?_ ?_<;>intro _)|fail)
   refine cl_Y (hAb) ?_
   intro _ _
   repeat'(first|(refine gY ?_;intros)|(refine hY ?_ ?_<;>intro hgd)|(refine jY ?_ ?_<;>intro _)|fail)
   refine cont_map (L':=[srP P xb b Sb.1,relP P hb hv,relP P ub u,diskP b d,P,pts b2 (.cells [vs].toArray 29)]++R) entD ?_
   exact cont_back ⟨i+1,xb,hb,ub,Sb.1,d,hv,u,n,tr,P⟩ ⟨h0,k,by dsimp only;rw[hr'];exact ehv,by dsimp only;rw[hl'];exact en,hE,⟨rfl,rfl,rfl,rfl,rfl,rfl,rfl,rfl,rfl,trivial⟩,rfl⟩ (by dsimp only;omega)
  |false=>
  cases c5:decide (xd=5)with
  |true=>
   have hFu:=fuse_spec b d xn
   have k:=hK.fuse hnb1
   generalize d.fuseTo xn=d2 at hFu k
   repeat'(first|(refine gY ?_;intros)|(refine hY ?_ ?_<;>intro hgd)|(refine jY ?_ ?_<;>intro _)|fail)
   refine cl_Y (hFu) ?_
   intro _ _
   repeat'(first|(refine gY ?_;intros)|(refine hY ?_ ?_<;>intro hgd)|(refine jY ?_ ?_<;>intro _)|fail)
   refine cont_map (L':=[srP P xb b S,relP P hb hv,relP P ub u,diskP b d2,P,pts b2 (.cells [vs].toArray 29)]++R) entD ?_
   exact cont_back ⟨i+1,xb,hb,ub,S,d2,hv,u,n,tr,P⟩ ⟨h0,k,ehv,en,hE,⟨rfl,rfl,rfl,rfl,rfl,rfl,rfl,rfl,rfl,trivial⟩,rfl⟩ (by dsimp only;omega)
  |false=>
  cases c6:decide (xd=6)with
  |false=>
   repeat'(first|(refine gY ?_;intros)|(refine hY ?_ ?_<;>intro hgd)|(refine jY ?_ ?_<;>intro _)|fail)
   refine cont_map (L':=[srP P xb b S,relP P hb hv,relP P ub u,diskP b d,P,pts b2 (.cells [vs].toArray 29)]++R) entD ?_
   exact cont_back ⟨i+1,xb,hb,ub,S,d,hv,u,n,tr,P⟩ ⟨h0,hK,ehv,en,hE,⟨rfl,rfl,rfl,rfl,rfl,rfl,rfl,rfl,rfl,trivial⟩,rfl⟩ (by dsimp only;omega)
  |true=>
   have hCr:=crash_spec b d xn xm hK.ok (by have:=hK.lo;omega)
   obtain⟨d1,sz,ls,r,hW,hH,hok1,hlo1,hcase,hK1⟩:=hK.crash hc xn xm
   have hO:=sOpen_again b (d.crash xn xm) d1 sz vs ts P ls r hvc hUP (hS.ext (hE02.trans hE)).sv0 hc hok1 (by omega) hH hW
   have hu2:=hK.uo
   clear hW hok1 hlo1 hK
   generalize d.crash xn xm=d2 at hCr hO
   generalize hS2:(⟨r,ls,none,⟨((ls.length+1:Nat):Int),(sz:Int),0⟩⟩:Src)=S2 at hO hK1
   have eL:S2.l=ls:=by rw[← hS2]
   have eR:S2.r=r:=by rw[← hS2]
   clear hS2
   subst eL eR
   have hfew2:=hH.few
   have h30:ts.length≤30:=hsm.1
   have hok0:Rl.Ok ⟨ts.map Tb.c,[],0⟩:=Rl.Ok.new hc
   obtain⟨hrok,hrs⟩:=hist_ok hok0 hH.h
   have hrwf:Rl.Wf S2.r:=hist_wf new_wf (fun l hl=>(hH.ch l hl).2) hH.h
   repeat'(first|(refine gY ?_;intros)|(refine hY ?_ ?_<;>intro hgd)|(refine jY ?_ ?_<;>intro _)|fail)
   refine cl_Y (hCr) ?_
   intro _ _
   repeat'(first|(refine gY ?_;intros)|(refine hY ?_ ?_<;>intro hgd)|(refine jY ?_ ?_<;>intro _)|fail)
   refine cl_Y (hO) ?_
   rintro⟨yb,P3⟩ hE3
   dsimp only at hE3 ⊢
   refine opsL_mapL (fun _ h=>relP_ext hE3 (b:=hb) (r:=hv) (Take.out1 (A:=relP P hb hv) takeD h)) ?_
   refine opsL_mapL (fun _ h=>relP_ext hE3 (b:=ub) (r:=u) (Take.out1 (A:=relP P ub u) takeD h)) ?_
   repeat'(first|(refine ro_Y ?_;intros)|fail)
   refine cont_then ?_
   have hCm:=fun Q=>sCommits_spec yb b S2 Q hfew2
   refine ok_map (L':=[srP P3 yb b S2,relP P3 hb hv,relP P3 ub u,diskP b d1,P3,pts b2 (.cells [vs].toArray 29)]++R) entD ?_
   refine ok_meet (γ:=Unit) (fun _ ρ L=>Knows ρ [(1,.slice (some ⟨bu,ou,none⟩) (az.map zsV).length ca),(2,.pointer (some ⟨b2,0,none⟩)),(5,.pointer (some ⟨b,0,none⟩)),(9,.pointer (some ⟨hb,0,none⟩)),(11,.pointer (some ⟨ub,0,none⟩)),(12,.int .u64 (n:Int)),(14,.int .i64 (i:Int)),(18,.pointer (some ⟨yb,0,none⟩))]∧L=[srP P3 yb b S2,relP P3 hb hv,relP P3 ub u,diskP b d1,P3,pts b2 (.cells [vs].toArray 29)]++R) ?_ ?_
   ·have hC1:=hCm P3
    rcases hcase with⟨q1,q2⟩|⟨q1,q2,q3⟩
    ·rw[q1,← en]at hC1
     have f1:(!decide ((n:Int)=(n:Int)))=false:=by simp
     repeat'(first|(refine gY ?_;intros)|(refine hY ?_ ?_<;>intro hgd)|(refine jY ?_ ?_<;>intro _)|fail)
     refine cl_Y (hC1) ?_
     intro _ _
     repeat'(first|(refine gY ?_;intros)|(refine hY ?_ ?_<;>intro hgd)|(refine jY ?_ ?_<;>intro _)|fail)
     refine cont_map (L':=[srP P3 yb b S2,relP P3 hb hv,relP P3 ub u,diskP b d1,P3,pts b2 (.cells [vs].toArray 29)]++R) entD ?_
     exact cont_meet () ⟨⟨rfl,rfl,rfl,rfl,rfl,rfl,rfl,rfl,trivial⟩,rfl⟩
    ·subst q1
     rw[q2,← en]at hC1
     have f1:(!decide (((n+1:Nat):Int)=(n:Int)))=true:=by rw[decide_eq_false (by omega)];rfl
     have f2:(!decide (((n+1:Nat):Int)=IntKind.u64.wrap (arith BinOp.add (n:Int) 1)))=false:=by rw[hwn];simp
     repeat'(first|(refine gY ?_;intros)|(refine hY ?_ ?_<;>intro hgd)|(refine jY ?_ ?_<;>intro _)|fail)
     refine cl_Y (hC1) ?_
     intro _ _
     repeat'(first|(refine gY ?_;intros)|(refine hY ?_ ?_<;>intro hgd)|(refine jY ?_ ?_<;>intro _)|fail)
     refine cl_Y (hC1) ?_
     intro _ _
     repeat'(first|(refine gY ?_;intros)|(refine hY ?_ ?_<;>intro hgd)|(refine jY ?_ ?_<;>intro _)|fail)
     refine cont_map (L':=[srP P3 yb b S2,relP P3 hb hv,relP P3 ub u,diskP b d1,P3,pts b2 (.cells [vs].toArray 29)]++R) entD ?_
     exact cont_meet () ⟨⟨rfl,rfl,rfl,rfl,rfl,rfl,rfl,rfl,trivial⟩,rfl⟩
   ·rintro _ ρ L ⟨hk1,rfl⟩
    refine ok_regs hk1 ?_
    refine ok_seq (ok_region ?_)
    repeat'(first|(refine ro_Y ?_;intros)|fail)
    refine cont_then ?_
    refine ok_meet (γ:=Nat×Nat×Rl) (fun g ρ L=>((g.1=hb∧g.2.1=ub∧g.2.2=u)∨(g.1=ub∧g.2.1=hb∧g.2.2=hv∧u=S2.r))∧Knows ρ [(1,.slice (some ⟨bu,ou,none⟩) (az.map zsV).length ca),(2,.pointer (some ⟨b2,0,none⟩)),(5,.pointer (some ⟨b,0,none⟩)),(9,.pointer (some ⟨hb,0,none⟩)),(11,.pointer (some ⟨ub,0,none⟩)),(12,.int .u64 (n:Int)),(14,.int .i64 (i:Int)),(18,.pointer (some ⟨yb,0,none⟩)),(20,.pointer (some ⟨g.1,0,none⟩))]∧L=[srP P3 yb b S2,relP P3 g.1 S2.r,relP P3 g.2.1 g.2.2,diskP b d1,P3,pts b2 (.cells [vs].toArray 29)]++R) ?_ ?_
    ·have hC1:=hCm P3
     rcases hcase with⟨q1,q2⟩|⟨q1,q2,q3⟩
     ·rw[q1,← en]at hC1
      have f1:decide ((n:Int)<(n:Int))=false:=by simp
      repeat'(first|(refine gY ?_;intros)|(refine hY ?_ ?_<;>intro hgd)|(refine jY ?_ ?_<;>intro _)|fail)
      refine cl_Y (hC1) ?_
      intro _ _
      repeat'(first|(refine gY ?_;intros)|(refine hY ?_ ?_<;>intro hgd)|(refine jY ?_ ?_<;>intro _)|fail)
      refine cont_map (L':=[srP P3 yb b S2,relP P3 hb hv,relP P3 ub u,diskP b d1,P3,pts b2 (.cells [vs].toArray 29)]++R) entD ?_
      exact cont_meet (hb,ub,u) ⟨.inl ⟨rfl,rfl,rfl⟩,⟨rfl,rfl,rfl,rfl,rfl,rfl,rfl,rfl,rfl,trivial⟩,by dsimp only;rw[q2,ehv]⟩
     ·rw[q2,← en]at hC1
      have f1:decide ((n:Int)<((n+1:Nat):Int))=true:=decide_eq_true (by omega)
      repeat'(first|(refine gY ?_;intros)|(refine hY ?_ ?_<;>intro hgd)|(refine jY ?_ ?_<;>intro _)|fail)
      refine cl_Y (hC1) ?_
      intro _ _
      repeat'(first|(refine gY ?_;intros)|(refine hY ?_ ?_<;>intro hgd)|(refine jY ?_ ?_<;>intro _)|fail)
      refine cont_map (L':=[srP P3 yb b S2,relP P3 ub u,relP P3 hb hv,diskP b d1,P3,pts b2 (.cells [vs].toArray 29)]++R) entD ?_
      exact cont_meet (ub,hb,hv) ⟨.inr ⟨rfl,rfl,rfl,q3.symm⟩,⟨rfl,rfl,rfl,rfl,rfl,rfl,rfl,rfl,rfl,trivial⟩,by dsimp only;rw[q3]⟩
    rintro⟨wb,ob,o⟩ ρ L ⟨hdj,hk2,rfl⟩
    dsimp only at hdj hk2 ⊢
    refine ok_regs hk2 ?_
    clear hcase
    have hrs':S2.r.s=ts.map Tb.c:=hrs
    have hAt:=sAt_spec yb b S2 S2.r S2.l.length P3 (hUP.ext hE3) (by rw[hrs'];exact hc) (Nat.le_refl _) hfew2 (by rw[hrs',List.take_length];exact hH.h)
    repeat'(first|(refine gY ?_;intros)|(refine hY ?_ ?_<;>intro hgd)|(refine jY ?_ ?_<;>intro _)|fail)
    refine cl_Y (hCm P3) ?_
    intro _ _
    repeat'(first|(refine gY ?_;intros)|(refine hY ?_ ?_<;>intro hgd)|(refine jY ?_ ?_<;>intro _)|fail)
    refine cl_Y (hAt) ?_
    rintro⟨rb,P4⟩ hE4
    dsimp only at hE4 ⊢
    refine opsL_mapL (fun _ h=>relP_ext hE4 (b:=wb) (r:=S2.r) (Take.out1 (A:=relP P3 wb S2.r) takeD h)) ?_
    refine opsL_mapL (fun _ h=>relP_ext hE4 (b:=ob) (r:=o) (Take.out1 (A:=relP P3 ob o) takeD h)) ?_
    repeat'(first|(refine gY ?_;intros)|(refine hY ?_ ?_<;>intro hgd)|(refine jY ?_ ?_<;>intro _)|fail)
    refine ok_map (L':=[srP P4 yb b S2,relP P4 rb S2.r,relP P4 wb S2.r,relP P4 ob o,diskP b d1,P4,pts b2 (.cells [vs].toArray 29)]++R) entD ?_
    have hE24:=hE02.trans (hE.trans (hE3.trans hE4))
    refine ok_learn (VwIn.slice (VwIn.there (VwIn.there (VwIn.there (VwIn.there (VwIn.there (VwIn.here (hS.ext hE24).vw))))))) ?_
    rintro⟨ps,cs,rfl⟩
    refine ok_loop' (γ:=Nat×HProp) (fun g ρ L=>g.1≤ts.length∧Ext P4 g.2∧
      Knows ρ [(1,.slice (some ⟨bu,ou,none⟩) (az.map zsV).length ca),(2,.pointer (some ⟨b2,0,none⟩)),(5,.pointer (some ⟨b,0,none⟩)),(11,.pointer (some ⟨ub,0,none⟩)),(14,.int .i64 (i:Int)),(18,.pointer (some ⟨yb,0,none⟩)),(20,.pointer (some ⟨wb,0,none⟩)),(21,.pointer (some ⟨rb,0,none⟩)),(23,.int .i64 (g.1:Int))]∧
      L=[srP g.2 yb b S2,relP g.2 rb S2.r,relP g.2 wb S2.r,relP g.2 ob o,diskP b d1,g.2,pts b2 (.cells [.slice ps (ts.map tbV).length cs].toArray 29)]++R)
     (fun g=>ts.length-g.1) (0,P4) ⟨Nat.zero_le _,.refl _,⟨rfl,rfl,rfl,rfl,rfl,rfl,rfl,rfl,rfl,trivial⟩,rfl⟩ ?_
    rintro⟨t,Pt⟩ ρ L ⟨ht0,hEt,hkt,rfl⟩
    dsimp only at ht0 hEt hkt ⊢
    refine ok_regs hkt ?_
    cases t5:decide ((t:Int)<((ts.map tbV).length:Int))with
    |false=>
     repeat'(first|(refine gY ?_;intros)|(refine hY ?_ ?_<;>intro hgd)|(refine jY ?_ ?_<;>intro _)|fail)
     refine cl_Y (relCopy_spec wb S2.r Pt) ?_
     intro hb' _
     repeat'(first|(refine gY ?_;intros)|(refine hY ?_ ?_<;>intro hgd)|(refine jY ?_ ?_<;>intro _)|fail)
     refine cl_Y (hCm Pt) ?_
     intro _ _
     repeat'(first|(refine gY ?_;intros)|(refine hY ?_ ?_<;>intro hgd)|(refine jY ?_ ?_<;>intro _)|fail)
     have hen:∀ h,SatL ([relP Pt hb' S2.r,srP Pt yb b S2,relP Pt wb S2.r,relP Pt ob o,diskP b d1,Pt,pts b2 (.cells [.slice ps (ts.map tbV).length cs].toArray 29)]++R) h→SatL ([srP Pt yb b S2,relP Pt hb' S2.r,relP Pt ub u,diskP b d1,Pt,pts b2 (.cells [.slice ps (ts.map tbV).length cs].toArray 29)]++R) h:=by
      rcases hdj with⟨e1,e2,e3⟩|⟨e1,e2,e3,e4⟩
      ·rw[← e2,← e3];exact entD
      ·rw[← e1,e4];exact entD
     refine cont_map (L':=[relP Pt hb' S2.r,srP Pt yb b S2,relP Pt wb S2.r,relP Pt ob o,diskP b d1,Pt,pts b2 (.cells [.slice ps (ts.map tbV).length cs].toArray 29)]++R) entD ?_
     refine cont_map hen ?_
     exact cont_back ⟨i+1,yb,hb',ub,S2,d1,S2.r,u,S2.l.length,false,Pt⟩ ⟨h0,hK1,rfl,rfl,hE.trans (hE3.trans (hE4.trans hEt)),⟨rfl,rfl,rfl,rfl,rfl,rfl,rfl,rfl,rfl,trivial⟩,rfl⟩ (by dsimp only;omega)
    |true=>
     have htl:t<ts.length:=by have:=of_decide_eq_true t5;omega
     have hR1:=relRows_spec rb S2.r t Pt hrok hrwf
     have hR2:=fun Q=>relRows_spec wb S2.r t Q hrok hrwf
     repeat'(first|(refine gY ?_;intros)|(refine hY ?_ ?_<;>intro hgd)|(refine jY ?_ ?_<;>intro _)|fail)
     refine cl_Y (hR1) ?_
     rintro⟨⟨u1,hu1⟩,a,P5⟩ ⟨hE5,hq1,hio1⟩
     dsimp only at hE5 hq1 hio1 ⊢
     refine opsL_mapL (fun _ h=>relP_ext hE5 (b:=wb) (r:=S2.r) (Take.out1 (A:=relP Pt wb S2.r) takeD h)) ?_
     repeat'(first|(refine gY ?_;intros)|(refine hY ?_ ?_<;>intro hgd)|(refine jY ?_ ?_<;>intro _)|fail)
     refine cl_Y (hR2 P5) ?_
     rintro⟨⟨u2,hu2⟩,c,P6⟩ ⟨hE6,hq2,hio2⟩
     dsimp only at hE6 hq2 hio2 ⊢
     have hsm:=same14_spec a c u1 u2 (row 22 1 u1 (a.map rwV)) (row 22 1 u2 (c.map rwV)) P6 Vw.row Vw.row (fun x h=>hE6.vw (hq1 x h)) hq2 (by have:=(hio1.small17 hrok).1;omega) (fun x h=>by have:=(hio1.small17 hrok).2 x h;omega)
     rw[decide_eq_true (hio1.uniq hio2 rfl (List.Perm.refl _))]at hsm
     repeat'(first|(refine gY ?_;intros)|(refine hY ?_ ?_<;>intro hgd)|(refine jY ?_ ?_<;>intro _)|fail)
     refine cl_Y (hsm) ?_
     intro _ _
     repeat'(first|(refine gY ?_;intros)|(refine hY ?_ ?_<;>intro hgd)|(refine jY ?_ ?_<;>intro _)|fail)
     have hE56:=hE5.trans hE6
     refine cont_map (fun _ h=>srP_ext hE56 (xb:=yb) (b:=b) (S:=S2) (Take.out1 (A:=srP Pt yb b S2) takeD h)) ?_
     refine cont_map (fun _ h=>relP_ext hE6 (b:=rb) (r:=S2.r) (Take.out1 (A:=relP P5 rb S2.r) takeD h)) ?_
     refine cont_map (fun _ h=>relP_ext hE56 (b:=ob) (r:=o) (Take.out1 (A:=relP Pt ob o) takeD h)) ?_
     refine cont_map (L':=[srP P6 yb b S2,relP P6 rb S2.r,relP P6 wb S2.r,relP P6 ob o,diskP b d1,P6,pts b2 (.cells [.slice ps (ts.map tbV).length cs].toArray 29)]++R) entD ?_
     exact cont_back (t+1,P6) ⟨htl,hEt.trans hE56,⟨rfl,rfl,rfl,rfl,rfl,rfl,rfl,rfl,rfl,trivial⟩,rfl⟩ (by dsimp only;omega)
end Go.Proofs.YtmnafjonbeihiaaGreatDoor
