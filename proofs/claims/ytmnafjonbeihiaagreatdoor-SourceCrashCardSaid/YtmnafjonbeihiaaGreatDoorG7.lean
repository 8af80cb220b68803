/- Texts merged: TxA TxB TxC TxD. -/
import Derived.Test.YtmnafjonbeihiaaGreatDoorK2
import Derived.Test.YtmnafjonbeihiaaGreatDoorH35
set_option linter.unusedSimpArgs false
set_option linter.unusedVariables false
set_option maxRecDepth 100000
namespace Go.Proofs.YtmnafjonbeihiaaGreatDoor
open Go Go.Fx Go.Proofs Go.Pl
theorem relClone_call(args:Array Value)(w:World):(callFunc 120 args).run Tryz.prog w=((Extern.MapsClone.clone args).run Tryz.prog w).andThen fun v w'=>.ok (.value v) w':=
 run_callFunc_extern Tryz.func120 (by kernel_rfl) (by kernel_rfl) (by kernel_rfl) (by kernel_rfl) args w
theorem mapClone_spec(m:Nat)(l:List (Pc×Value)):FSpec Tryz.prog 70 [.map (some m)] [mapK KPlace m l] Nat (fun _=>True) (fun b=>.map (some b)) (fun b=>[mapK KPlace b l,mapK KPlace m l]):=by
 refine spec_intro [] _ Tryz.func70 rfl Tryz.ntmps70 (by rfl) (fun w0 R=>?_)
 repeat'(first|(refine gY ?_;intros)|(refine hY ?_ ?_<;>intro hgd)|(refine jY ?_ ?_<;>intro _)|fail)
 refine clV_Y (vspec_clone relClone_call KPlace 127 m l) ?_
 intro y _
 repeat'(first|(refine gY ?_;intros)|(refine hY ?_ ?_<;>intro hgd)|(refine jY ?_ ?_<;>intro _)|fail)
 (refine rt_Y (y:=y) (hrs:=Tryz.results70) (hv:=?_) (hφ:=?_))
 ·rfl
 ·trivial
theorem relCopy_spec(b:Nat)(r:Rl)(P:HProp):FSpec Tryz.prog 29 [.pointer (some ⟨b,0,none⟩)] [relP P b r] Nat (fun _=>True) (fun y=>.pointer (some ⟨y,0,none⟩)) (fun y=>[relP P y r,relP P b r]):=by
 refine fspec_ex ?_
 rintro⟨⟨vs,ts,m,es⟩,hy⟩
 have hvc:=hy.vc
 dsimp only at hvc
 unfold relL
 dsimp only
 refine spec_intro [] _ Tryz.func29 rfl Tryz.ntmps29 (by rfl) (fun w0 R=>?_)
 repeat'(first|(refine gY ?_;intros)|(refine hY ?_ ?_<;>intro hgd)|(refine jY ?_ ?_<;>intro _)|fail)
 refine ok_drawL (cv:=[]) [8] ([pts b (.cells [vs,.map (some m),.int .u64 r.turns].toArray 129)]) (takeD) (by kernel_rfl) rfl (by decide +kernel) ?_
 repeat'(first|(refine gY ?_;intros)|(refine hY ?_ ?_<;>intro hgd)|(refine jY ?_ ?_<;>intro _)|fail)
 refine clN_Y (mapClone_spec m es) ?_
 intro m2 _
 repeat'(first|(refine gY ?_;intros)|(refine hY ?_ ?_<;>intro hgd)|(refine jY ?_ ?_<;>intro _)|fail)
 rename_i b2
 refine cont_map (fun _ h=>rel_in (b:=b) (r:=r) hy (Take.out takeD h)) ?_
 refine cont_map (fun _ h=>rel_in (b:=b2) (r:=r) (vs:=vs) (ts:=ts) (m:=m2) (es:=es) ⟨hvc,hy.sv,hy.s,hy.es⟩ (Take.out takeD h)) ?_
 (refine rt_Y (y:=b2) (hrs:=Tryz.results29) (hv:=?_) (hφ:=?_))
 ·rfl
 ·trivial
theorem take_app:∀ {pre R:List HProp},Take (pre++R) pre R
 | [],_=>.nil
 |_::_,_=>.cons .here take_app
theorem when_no(mv dv:Value)(e:Int)(he:e≠0)(pre post:List HProp)(hm:VSpec Tryz.prog mv [] pre Unit (fun _=>True) (fun _=>.int .i64 e) (fun _=>post)):
  FSpec Tryz.prog 91 [mv,dv] pre Unit (fun _=>True) (fun _=>.int .i64 e) (fun _=>post):=by
 have f1:(!decide (e=(0:Int)))=true:=by simp[he]
 refine spec_intro [] _ Tryz.func91 rfl Tryz.ntmps91 (by rfl) (fun w0 R=>?_)
 repeat'(first|(refine gY ?_;intros)|(refine hY ?_ ?_<;>intro hgd)|(refine jY ?_ ?_<;>intro _)|fail)
 apply ops_run
 refine s_callv (vs:=[]) (by rfl) .nil hm take_app (by rfl) (by rfl) ?_
 intro _ _
 repeat'(first|(refine gY ?_;intros)|(refine hY ?_ ?_<;>intro hgd)|(refine jY ?_ ?_<;>intro _)|fail)
 refine rt_Y (y:=()) (hrs:=Tryz.results91) (hp:=fun _ h=>h) (hv:=?_) (hφ:=?_)
 ·rfl
 ·trivial
theorem when_yes(mv dv:Value)(pre mid:List HProp){Y:Type}{φ:Y→Prop}{g:Y→Int}{post:Y→List HProp}(hm:VSpec Tryz.prog mv [] pre Unit (fun _=>True) (fun _=>.int .i64 0) (fun _=>mid))
  (hd:VSpec Tryz.prog dv [] mid Y φ (fun y=>.int .i64 (g y)) post):FSpec Tryz.prog 91 [mv,dv] pre Y φ (fun y=>.int .i64 (g y)) post:=by
 have f1:(!decide ((0:Int)=(0:Int)))=false:=by decide
 refine spec_intro [] _ Tryz.func91 rfl Tryz.ntmps91 (by rfl) (fun w0 R=>?_)
 repeat'(first|(refine gY ?_;intros)|(refine hY ?_ ?_<;>intro hgd)|(refine jY ?_ ?_<;>intro _)|fail)
 apply ops_run
 refine s_callv (vs:=[]) (by rfl) .nil hm take_app (by rfl) (by rfl) ?_
 intro _ _
 repeat'(first|(refine gY ?_;intros)|(refine hY ?_ ?_<;>intro hgd)|(refine jY ?_ ?_<;>intro _)|fail)
 apply ops_run
 refine s_callv (vs:=[]) (by rfl) .nil hd take_app (by rfl) (by rfl) ?_
 intro y hy
 repeat'(first|(refine gY ?_;intros)|(refine hY ?_ ?_<;>intro hgd)|(refine jY ?_ ?_<;>intro _)|fail)
 refine rt_Y (y:=y) (hrs:=Tryz.results91) (hp:=fun _ h=>h) (hv:=?_) (hφ:=?_)
 ·rfl
 ·exact hy
end Go.Proofs.YtmnafjonbeihiaaGreatDoor
namespace Go.Pl
open Go
structure Chg where
 kind:Int
 table:Int
 bef:List Vl
 aft:List Vl
structure Tx where
 own:Rl
 t0:Int
 redo:List Opr
 l:List Chg
 over:Bool
def Tx.doT(x:Tx)(o:Opr):Tx×Int:=
 if x.over then(x,150)else if 60≤x.l.length then(x,4)else
 if(x.own.doOp o).2.2.2≠0 then(x,(x.own.doOp o).2.2.2)
 else({x with own:=(x.own.doOp o).1,redo:=x.redo++[o],l:=x.l++[⟨o.kind,o.table,(x.own.doOp o).2.1,(x.own.doOp o).2.2.1⟩]},0)
structure Tx.Ok(x:Tx):Prop where
 own:x.own.Ok
 len:x.l.length≤60
 rlen:x.redo.length=x.l.length
 rows:∀ o∈x.redo,o.row.length≤1000000∧∀ v∈o.row,v.wf
 chg:∀ c∈x.l,c.bef.length≤1000000∧c.aft.length≤1000000
 t0:0≤x.t0
 t1:x.t0≤18446744073709551615
end Go.Pl
namespace Go.Proofs.YtmnafjonbeihiaaGreatDoor
open Go Go.Fx Go.Proofs Go.Pl
theorem fspec_frame'{P:Program}{f:FuncId}{args:List Value}{pre:List HProp}{Y:Type}{φ:Y→Prop}{ret:Y→Value}{post:Y→List HProp}(s:FSpec P f args pre Y φ ret post)(F:List HProp):FSpec P f args (pre++F) Y φ ret (fun y=>post y++F):=by
 intro w0 w R hs
 rw[List.append_assoc]at hs
 refine(s w0 w (F++R) hs).mono ?_
 rintro e w' ⟨y,hy,he,hw⟩
 exact⟨y,hy,he,by rw[List.append_assoc];exact hw⟩
theorem row_shape'{e n:Nat}{v:Value}{xs:List (List Value)}{L R:List HProp}(hn:0<n)(t:Take L [row e n v xs] R)(h:Frag)(s:SatL L h):∃ p c,v= .slice p xs.length c∧xs.length≤c:=by
 obtain⟨h1,_,_,_,_,hr,_⟩:=t.out s
 obtain⟨p,c,rfl⟩:∃ p c,v= .slice p xs.length c:=by
  obtain⟨_,(⟨rfl,rfl⟩|⟨b,c,_,rfl,_⟩)⟩:=hr
  ·exact⟨none,0,rfl⟩
  ·exact⟨_,c,rfl⟩
 exact⟨p,c,rfl,row_cap hn hr⟩
structure Rm where
 bx:Nat
 kind:Int
 table:Int
 w:V1s
 row:List Vl
def rmF(x:Rm):List Value:=[.func (.func 103) #[] #[.pointer (some ⟨x.bx,0,none⟩)]]
def Rm.c(x:Rm):Opr:=⟨x.kind,x.table,x.row⟩
structure RmR(P:HProp)(x:Rm):Prop where
 rd:Rd P x.bx (.cells [.int .u8 x.kind,.int .i64 x.table,x.w.1].toArray 24)
 vw:Vw P 4 x.w.1 (x.row.map valV)
theorem Ext.rd{P P':HProp}(a:Ext P P'){b:Nat}{o:Obj}(h:Rd P b o):Rd P' b o:=fun f hf=>by
 obtain⟨h',l,p⟩:=a f hf
 exact l _ _ (h h' p)
theorem RmR.ext{P P':HProp}(a:Ext P P'){x:Rm}(h:RmR P x):RmR P' x:=⟨Ext.rd a h.rd,a.vw h.vw⟩
structure Cm where
 kind:Int
 table:Int
 bv:V1s
 bef:List Vl
 av:V1s
 aft:List Vl
def cmV(x:Cm):List Value:=[.int .u8 x.kind,.int .i64 x.table,x.bv.1,x.av.1]
def Cm.c(x:Cm):Chg:=⟨x.kind,x.table,x.bef,x.aft⟩
structure CmR(P:HProp)(x:Cm):Prop where
 bv:Vw P 4 x.bv.1 (x.bef.map valV)
 av:Vw P 4 x.av.1 (x.aft.map valV)
theorem CmR.ext{P P':HProp}(a:Ext P P'){x:Cm}(h:CmR P x):CmR P' x:=⟨a.vw h.bv,a.vw h.av⟩
structure TxY where
 bw:Nat
 vr:Value
 rs:List Rm
 vl:Value
 cs:List Cm
structure TxOK(P:HProp)(x:Tx)(y:TxY):Prop where
 vr:y.vr.oneCell'=true
 vl:y.vl.oneCell'=true
 rs:∀ r∈y.rs,RmR P r
 redo:y.rs.map Rm.c=x.redo
 cs:∀ c∈y.cs,CmR P c
 l:y.cs.map Cm.c=x.l
theorem TxOK.ext{P P':HProp}(a:Ext P P'){x:Tx}{y:TxY}(h:TxOK P x y):TxOK P' x y:=⟨h.vr,h.vl,fun r hr=>(h.rs r hr).ext a,h.redo,fun c hc=>(h.cs c hc).ext a,h.l⟩
def txL(P:HProp)(b bn:Nat)(x:Tx)(y:{y:TxY // TxOK P x y}):List HProp:=
 [pts b (.cells [.pointer (some ⟨bn,0,none⟩),.pointer (some ⟨y.1.bw,0,none⟩),.int .u64 x.t0,y.1.vr,y.1.vl,.bool x.over].toArray 167),row 178 1 y.1.vr (y.1.rs.map rmF),row 61 4 y.1.vl (y.1.cs.map cmV),relP P y.1.bw x.own]
def txP(P:HProp)(b bn:Nat)(x:Tx):HProp:=exP (txL P b bn x)
theorem tx_in{P:HProp}{b bn:Nat}{x:Tx}{y:TxY}(hy:TxOK P x y){L:List HProp}{h:Frag}(s:SatL (txL P b bn x ⟨y,hy⟩++L) h):SatL (txP P b bn x::L) h:=ex_in (M:=txL P b bn x) ⟨y,hy⟩ rfl s
theorem txP_ext{P P':HProp}(a:Ext P P'){b bn:Nat}{x:Tx}{L:List HProp}{h:Frag}(s:SatL (txP P b bn x::L) h):SatL (txP P' b bn x::L) h:=by
 obtain⟨h1,h2,ha,l1,l2,⟨y,hy⟩,hL⟩:=s
 have s2:SatL (txL P b bn x y++L) h:=SatL.flat (M:=txL P b bn x y) (L:=L) ⟨h1,h2,ha,l1,l2,hy,hL⟩
 refine tx_in (y:=y.1) (y.2.ext a) ?_
 unfold txL at s2 ⊢
 exact SatL.consMono s2 fun _ s2=>SatL.consMono s2 fun _ s2=>SatL.consMono s2 fun _ s2=>relP_ext a s2
theorem txMay_spec(b:Nat)(a0 a1 a2 a3 a4:Value)(ov:Bool):FSpec Tryz.prog 92 [.pointer (some ⟨b,0,none⟩)] [pts b (.cells [a0,a1,a2,a3,a4,.bool ov].toArray 167)] Unit (fun _=>True) (fun _=>.int .i64 (bif ov then 150 else 0))
  (fun _=>[pts b (.cells [a0,a1,a2,a3,a4,.bool ov].toArray 167)]):=by
 cases ov with
 |true=>
  refine spec_intro [] _ Tryz.func92 rfl Tryz.ntmps92 (by rfl) (fun w0 R=>?_)
  repeat'(first|(refine gY ?_;intros)|(refine hY ?_ ?_<;>intro hgd)|(refine jY ?_ ?_<;>intro _)|fail)
  (refine rt_Y (y:=()) (hrs:=Tryz.results92) (hv:=?_) (hφ:=?_))
  ·rfl
  ·trivial
 |false=>
  refine spec_intro [] _ Tryz.func92 rfl Tryz.ntmps92 (by rfl) (fun w0 R=>?_)
  repeat'(first|(refine gY ?_;intros)|(refine hY ?_ ?_<;>intro hgd)|(refine jY ?_ ?_<;>intro _)|fail)
  (refine rt_Y (y:=()) (hrs:=Tryz.results92) (hv:=?_) (hφ:=?_))
  ·rfl
  ·trivial
theorem txNew_spec(b:Nat)(r:Rl)(P:HProp):FSpec Tryz.prog 52 [.pointer (some ⟨b,0,none⟩)] [relP P b r] Nat (fun _=>True) (fun y=>.tuple #[.pointer (some ⟨y,0,none⟩),.int .i64 0])
  (fun y=>[txP P y b ⟨r,r.turns,[],[],false⟩,relP P b r]):=by
 refine spec_intro [] _ Tryz.func52 rfl Tryz.ntmps52 (by rfl) (fun w0 R=>?_)
 repeat'(first|(refine gY ?_;intros)|(refine hY ?_ ?_<;>intro hgd)|(refine jY ?_ ?_<;>intro _)|fail)
 refine cl_Y (relCopy_spec b r P) ?_
 intro bw _
 repeat'(first|(refine gY ?_;intros)|(refine hY ?_ ?_<;>intro hgd)|(refine jY ?_ ?_<;>intro _)|fail)
 refine cl_Y (relTurns_spec b r P) ?_
 intro _ _
 repeat'(first|(refine gY ?_;intros)|(refine hY ?_ ?_<;>intro hgd)|(refine jY ?_ ?_<;>intro _)|fail)
 rename_i bx
 refine cont_map (fun _ h=>nilRow (e:=61) (n:=4) h) ?_
 refine cont_map (fun _ h=>nilRow (e:=178) (n:=1) h) ?_
 refine cont_map (fun _ h=>tx_in (b:=bx) (bn:=b) (x:=⟨r,r.turns,[],[],false⟩) (y:=⟨bw,.slice none 0 0,[],.slice none 0 0,[]⟩) ⟨rfl,rfl,fun _ h=>by simp at h,rfl,fun _ h=>by simp at h,rfl⟩ (Take.out takeD h)) ?_
 (refine rt_Y (y:=bx) (hrs:=Tryz.results52) (hv:=?_) (hφ:=?_))
 ·rfl
 ·trivial
end Go.Proofs.YtmnafjonbeihiaaGreatDoor
set_option pp.deepTerms true
set_option pp.maxSteps 200000
namespace Go.Proofs.YtmnafjonbeihiaaGreatDoor
open Go Go.Fx Go.Proofs Go.Pl
theorem vspec_frame{P:Program}{fv:Value}{args:List Value}{pre:List HProp}{Y:Type}{φ:Y→Prop}{ret:Y→Value}{post:Y→List HProp}(s:VSpec P fv args pre Y φ ret post)(F:List HProp):VSpec P fv args (pre++F) Y φ ret (fun y=>post y++F):=by
 intro w0 w R hs
 rw[List.append_assoc]at hs
 refine(s w0 w (F++R) hs).mono ?_
 rintro e w' ⟨y,hy,he,hw⟩
 exact⟨y,hy,he,by rw[List.append_assoc];exact hw⟩
theorem did_len{r:Rl}(hok:r.Ok)(o:Opr)(hl:o.row.length≤1000000):(r.doOp o).2.1.length≤1000000∧(r.doOp o).2.2.1.length≤1000000:=by
 rcases doOp_did r o with⟨_,_,e1,e2⟩|⟨_,p,d⟩
 ·rw[e1,e2];exact⟨by simp,by simp⟩
 ·refine⟨?_,?_⟩
  ·rw[d.was]
   cases hg:aget p r.rows with
   |none=>simp
   |some l=>have:=row_len hok hg;show l.length≤_;omega
  ·rcases d.kind with⟨_,_,_,e⟩|⟨_,_,_,e⟩|⟨_,_,_,e⟩
   ·rw[e];exact hl
   ·rw[e];exact hl
   ·rw[e];simp
theorem Tx.Ok.doT{x:Tx}(h:x.Ok){o:Opr}(hl:o.row.length≤1000000)(hw:∀ v∈o.row,v.wf):(x.doT o).1.Ok:=by
 unfold Tx.doT
 split
 ·exact h
 split
 ·exact h
 split
 ·exact h
 ·rename_i h1 h2 h3
  obtain⟨l1,l2⟩:=did_len h.own o hl
  refine⟨h.own.doOp o,?_,?_,?_,?_,h.t0,h.t1⟩
  ·dsimp only;rw[List.length_append,List.length_singleton];omega
  ·dsimp only;rw[List.length_append,List.length_append,h.rlen];rfl
  ·intro q hq
   rcases List.mem_append.1 hq with hq|hq
   ·exact h.rows q hq
   ·rw[List.mem_singleton]at hq;subst hq;exact⟨hl,hw⟩
  ·intro q hq
   rcases List.mem_append.1 hq with hq|hq
   ·exact h.chg q hq
   ·rw[List.mem_singleton]at hq;subst hq;exact⟨l1,l2⟩
set_option maxHeartbeats 4000000 in
theorem txDo1_spec(b bn bt bo:Nat)(x:Tx)(o:Opr)(w:Value)(P:HProp)(hx:x.Ok)(hov:x.over=false)(hU:UT P)(hw:Vw P 4 w (o.row.map valV))(hwc:w.oneCell'=true)(hwf:∀ v∈o.row,v.wf)(hlen:o.row.length≤1000000):
  FSpec Tryz.prog 102 [.pointer (some ⟨bt,0,none⟩),.pointer (some ⟨bo,0,none⟩)] [txP P b bn x,P,pts bt (.cells [.pointer (some ⟨b,0,none⟩)].toArray 97),pts bo (.cells [.int .u8 o.kind,.int .i64 o.table,w].toArray 24)] HProp (fun P'=>Ext P P') (fun _=>.int .i64 (x.doT o).2) (fun P'=>[txP P' b bn (x.doT o).1,P']):=by
 refine fspec_ex ?_
 rintro⟨⟨bw,vr,rs,vl,cs⟩,hy⟩
 have hin:=fun L h (s:SatL (txL P b bn x ⟨⟨bw,vr,rs,vl,cs⟩,hy⟩++L) h)=>tx_in hy s
 unfold txL at hin ⊢
 dsimp only at hin ⊢
 obtain⟨h1,h2,h3,h4,h5,h6⟩:=hy
 dsimp only at h1 h2 h3 h4 h5 h6
 obtain⟨own,t0,redo,l,over⟩:=x
 dsimp only at hov h4 h6
 subst hov
 have lc:(cs.map cmV).length=l.length:=by rw[← h6];simp
 have lr:(rs.map rmF).length=l.length:=by have:=hx.rlen;dsimp only at this;rw[← this,← h4];simp
 have lcs:cs.length=l.length:=by rw[← lc];simp
 have lrs:rs.length=l.length:=by rw[← lr];simp
 have hlm:=hx.len
 have hown:=hx.own
 obtain⟨okd,otb,orow⟩:=o
 dsimp only at*
 have lo:(orow.map valV).length=orow.length:=by simp
 unfold Tx.doT
 dsimp only
 rw[if_neg (by simp)]
 cases t1:decide ((60:Int)≤((cs.map cmV).length:Int))with
 |true=>
  have:60≤l.length:=by have:=of_decide_eq_true t1;omega
  rw[if_pos this]
  refine spec_intro [] _ Tryz.func102 rfl Tryz.ntmps102 (by rfl) (fun w0 R=>?_)
  refine ok_learn (rowShape (e:=61) (n:=4) (v:=vl) (xs:=cs.map cmV) (by decide) takeD) ?_
  rintro(⟨rfl,hn⟩|⟨gl,cl,rfl,hcl⟩)
  ·rw[hn]at t1;simp at t1
  repeat'(first|(refine gY ?_;intros)|(refine hY ?_ ?_<;>intro hgd)|(refine jY ?_ ?_<;>intro _)|fail)
  refine cont_map (fun _ h=>hin _ _ (Take.out takeD h)) ?_
  (refine rt_Y (y:=P) (hrs:=Tryz.results102) (hv:=?_) (hφ:=?_))
  ·rfl
  ·exact Ext.refl P
 |false=>
  have hl60:l.length<60:=by have:=of_decide_eq_false t1;omega
  rw[if_neg (by omega)]
  have hdo:=relDo_spec bw own ⟨okd,otb,orow⟩ w P hown hU hw hwc hwf hlen
  rcases doOp_did own ⟨okd,otb,orow⟩with⟨he,hr',hb',ha'⟩|⟨he,p,hd⟩
  ·rw[if_pos he]
   rw[hr',hb',ha']at hdo
   generalize (own.doOp ⟨okd,otb,orow⟩).2.2.2=e at hdo he ⊢
   have f1:(!decide (e=(0:Int)))=true:=by simp[he]
   refine spec_intro [] _ Tryz.func102 rfl Tryz.ntmps102 (by rfl) (fun w0 R=>?_)
   refine ok_learn (row_shape' (e:=61) (n:=4) (v:=vl) (xs:=cs.map cmV) (by decide) takeD) ?_
   rintro⟨pl,cl,rfl,hcl⟩
   refine ok_learn (row_shape' (e:=178) (n:=1) (v:=vr) (xs:=rs.map rmF) (by decide) takeD) ?_
   rintro⟨pq,cq,rfl,hcq⟩
   repeat'(first|(refine gY ?_;intros)|(refine hY ?_ ?_<;>intro hgd)|(refine jY ?_ ?_<;>intro _)|fail)
   refine cl_Y (hdo) ?_
   rintro⟨⟨b4,hb4⟩,⟨a4,ha4⟩,P'⟩ ⟨hE',hbv⟩
   dsimp only at hE' hbv ⊢
   repeat'(first|(refine gY ?_;intros)|(refine hY ?_ ?_<;>intro hgd)|(refine jY ?_ ?_<;>intro _)|fail)
   refine cont_map (fun _ h=>relP_ext (b:=bw) (r:=own) (Ext.refl P') (Take.out1 takeD h)) ?_
   refine cont_map (fun _ h=>tx_in (b:=b) (bn:=bn) (x:=⟨own,t0,redo,l,false⟩) (y:=⟨bw,.slice pq (rs.map rmF).length cq,rs,.slice pl (cs.map cmV).length cl,cs⟩) (TxOK.ext hE' ⟨h1,h2,h3,h4,h5,h6⟩) (Take.out takeD h)) ?_
   (refine rt_Y (y:=P') (hrs:=Tryz.results102) (hv:=?_) (hφ:=?_))
   ·rfl
   ·exact hE'
  ·rw[if_neg (by rw[he];simp)]
   have hokn:=hown.doOp ⟨okd,otb,orow⟩
   obtain⟨hbl,_⟩:=did_len hown ⟨okd,otb,orow⟩ hlen
   have hcl1:=fun P' (hv:Vw P' 4 w (orow.map valV))=>cloneV_spec w P' orow hv hlen
   rw[he]at hdo
   clear hd he
   generalize (own.doOp ⟨okd,otb,orow⟩).1=own' at hdo hokn ⊢
   generalize (own.doOp ⟨okd,otb,orow⟩).2.1=bef at hdo hbl ⊢
   generalize (own.doOp ⟨okd,otb,orow⟩).2.2.1=aft at hdo ⊢
   have f1:(!decide ((0:Int)=(0:Int)))=false:=by decide
   refine spec_intro [] _ Tryz.func102 rfl Tryz.ntmps102 (by rfl) (fun w0 R=>?_)
   refine ok_learn (row_shape' (e:=61) (n:=4) (v:=vl) (xs:=cs.map cmV) (by decide) takeD) ?_
   rintro⟨pl,cl,rfl,hcl⟩
   refine ok_learn (row_shape' (e:=178) (n:=1) (v:=vr) (xs:=rs.map rmF) (by decide) takeD) ?_
   rintro⟨pq,cq,rfl,hcq⟩
   repeat'(first|(refine gY ?_;intros)|(refine hY ?_ ?_<;>intro hgd)|(refine jY ?_ ?_<;>intro _)|fail)
   refine cl_Y (hdo) ?_
   rintro⟨⟨b4,hb4⟩,⟨a4,ha4⟩,P'⟩ ⟨hE',hbv⟩
   dsimp only at hE' hbv ⊢
   refine ops_learn (VwIn.slice (VwIn.there (VwIn.there (VwIn.here hbv)))) ?_
   rintro⟨pb4,cb4,rfl⟩
   refine ops_learn (row_shape' (e:=93) (n:=4) (v:=a4) (xs:=aft.map valV) (by decide) takeD) ?_
   rintro⟨pa4,ca4,rfl,_⟩
   repeat'(first|(refine gY ?_;intros)|(refine hY ?_ ?_<;>intro hgd)|(refine jY ?_ ?_<;>intro _)|fail)
   refine cl_Y (hcl1 P' (hE'.vw hw)) ?_
   rintro⟨vn,hvn⟩ _
   repeat'(first|(refine gY ?_;intros)|(refine hY ?_ ?_<;>intro hgd)|(refine jY ?_ ?_<;>intro _)|fail)
   refine ok_map (L':=[row 93 4 vn (orow.map valV),P',row 93 4 (.slice pa4 (aft.map valV).length ca4) (aft.map valV),relP P' bw own',pts b (.cells [.pointer (some ⟨bn,0,none⟩),.pointer (some ⟨bw,0,none⟩),.int .u64 t0,.slice pq (rs.map rmF).length cq,.slice pl (cs.map cmV).length cl,.bool false].toArray 167),row 178 1 (.slice pq (rs.map rmF).length cq) (rs.map rmF),row 61 4 (.slice pl (cs.map cmV).length cl) (cs.map cmV),pts bt (.cells [.pointer (some ⟨b,0,none⟩)].toArray 97),pts bo (.cells [.int .u8 okd,.int .i64 otb,vn].toArray 24)]++R) entD ?_
   refine ok_drawL (cv:=[]) [10,13,14] ([P',pts b (.cells [.pointer (some ⟨bn,0,none⟩),.pointer (some ⟨bw,0,none⟩),.int .u64 t0,.slice pq (rs.map rmF).length cq,.slice pl (cs.map cmV).length cl,.bool false].toArray 167),pts bt (.cells [.pointer (some ⟨b,0,none⟩)].toArray 97),pts bo (.cells [.int .u8 okd,.int .i64 otb,vn].toArray 24)]) (takeD) (by kernel_rfl) rfl (by decide +kernel) ?_
   repeat'(first|(refine gY ?_;intros)|(refine hY ?_ ?_<;>intro hgd)|(refine jY ?_ ?_<;>intro _)|fail)
   refine clN_Y (cloneV_spec (.slice pb4 (bef.map valV).length cb4) P' bef hbv hbl) ?_
   rintro⟨vb,hvb⟩ _
   refine ops_learn (row_shape' (e:=93) (n:=4) (v:=vb) (xs:=bef.map valV) (by decide) takeD) ?_
   rintro⟨pvb,cvb,rfl,_⟩
   repeat'(first|(refine gY ?_;intros)|(refine hY ?_ ?_<;>intro hgd)|(refine jY ?_ ?_<;>intro _)|fail)
   rename_i v1 hv1c v2 hv2c
   refine ok_map (L':=[row 61 4 v2 (cs.map cmV++[cmV ⟨okd,otb,⟨.slice pvb (bef.map valV).length cvb,hvb⟩,bef,⟨.slice pa4 (aft.map valV).length ca4,ha4⟩,aft⟩]),row 93 4 (.slice pvb (bef.map valV).length cvb) (bef.map valV),row 93 4 vn (orow.map valV),P',row 93 4 (.slice pa4 (aft.map valV).length ca4) (aft.map valV),relP P' bw own',pts b (.cells [.pointer (some ⟨bn,0,none⟩),.pointer (some ⟨bw,0,none⟩),.int .u64 t0,.slice pq (rs.map rmF).length cq,v2,.bool false].toArray 167),row 178 1 (.slice pq (rs.map rmF).length cq) (rs.map rmF),pts bt (.cells [.pointer (some ⟨b,0,none⟩)].toArray 97),pts bo (.cells [.int .u8 okd,.int .i64 otb,vn].toArray 24)]++R) entD ?_
   refine ok_drawL (cv:=[]) [6,7] ([pts b (.cells [.pointer (some ⟨bn,0,none⟩),.pointer (some ⟨bw,0,none⟩),.int .u64 t0,.slice pq (rs.map rmF).length cq,v2,.bool false].toArray 167),pts bt (.cells [.pointer (some ⟨b,0,none⟩)].toArray 97)]) (takeD) (by kernel_rfl) rfl (by decide +kernel) ?_
   repeat'(first|(refine gY ?_;intros)|(refine hY ?_ ?_<;>intro hgd)|(refine jY ?_ ?_<;>intro _)|fail)
   rename_i v3 hv3c v4 hv4c
   have e1:=Ext.pool (row 93 4 (.slice pa4 (aft.map valV).length ca4) (aft.map valV)) P'
   have w1:Vw (pool (row 93 4 (.slice pa4 (aft.map valV).length ca4) (aft.map valV)) P') 4 (.slice pa4 (aft.map valV).length ca4) (aft.map valV):=pool_row
   refine cont_map (fun _ h=>pool_in (A:=row 93 4 (.slice pa4 (aft.map valV).length ca4) (aft.map valV)) (P:=P') (Take.out2 takeD h)) ?_
   generalize pool (row 93 4 (.slice pa4 (aft.map valV).length ca4) (aft.map valV)) P'=Q1 at e1 w1
   have e2:=Ext.pool (row 93 4 (.slice pvb (bef.map valV).length cvb) (bef.map valV)) Q1
   have w2:Vw (pool (row 93 4 (.slice pvb (bef.map valV).length cvb) (bef.map valV)) Q1) 4 (.slice pvb (bef.map valV).length cvb) (bef.map valV):=pool_row
   refine cont_map (fun _ h=>pool_in (A:=row 93 4 (.slice pvb (bef.map valV).length cvb) (bef.map valV)) (P:=Q1) (Take.out2 takeD h)) ?_
   generalize pool (row 93 4 (.slice pvb (bef.map valV).length cvb) (bef.map valV)) Q1=Q2 at e2 w2
   have e3:=Ext.pool (row 93 4 vn (orow.map valV)) Q2
   have w3:Vw (pool (row 93 4 vn (orow.map valV)) Q2) 4 vn (orow.map valV):=pool_row
   refine cont_map (fun _ h=>pool_in (A:=row 93 4 vn (orow.map valV)) (P:=Q2) (Take.out2 takeD h)) ?_
   generalize pool (row 93 4 vn (orow.map valV)) Q2=Q3 at e3 w3
   have e4:=Ext.pool (pts bo (.cells [.int .u8 okd,.int .i64 otb,vn].toArray 24)) Q3
   have w4:Rd (pool (pts bo (.cells [.int .u8 okd,.int .i64 otb,vn].toArray 24)) Q3) bo (.cells [.int .u8 okd,.int .i64 otb,vn].toArray 24):=Ext.rd (Ext.poolL _ _) (Rd.pts _ _)
   refine cont_map (fun _ h=>pool_in (A:=pts bo (.cells [.int .u8 okd,.int .i64 otb,vn].toArray 24)) (P:=Q3) (Take.out2 takeD h)) ?_
   generalize pool (pts bo (.cells [.int .u8 okd,.int .i64 otb,vn].toArray 24)) Q3=Q4 at e4 w4
   have e24:=(e2.trans e3).trans e4
   have e04:=e1.trans e24
   refine cont_map (fun _ h=>relP_ext (b:=bw) (r:=own') e04 (Take.out1 takeD h)) ?_
   have m1:(rs++[(⟨bo,okd,otb,⟨vn,hvn⟩,orow⟩:Rm)]).map rmF=rs.map rmF++[[.func (.func 103) #[] #[.pointer (some ⟨bo,0,none⟩)]]]:=by rw[List.map_append];rfl
   have m2:(cs++[(⟨okd,otb,⟨.slice pvb (bef.map valV).length cvb,hvb⟩,bef,⟨.slice pa4 (aft.map valV).length ca4,ha4⟩,aft⟩:Cm)]).map cmV=cs.map cmV++[cmV ⟨okd,otb,⟨.slice pvb (bef.map valV).length cvb,hvb⟩,bef,⟨.slice pa4 (aft.map valV).length ca4,ha4⟩,aft⟩]:=by rw[List.map_append];rfl
   have hE4:=hE'.trans e04
   refine cont_map (fun _ h=>tx_in (b:=b) (bn:=bn) (x:=⟨own',t0,redo++[⟨okd,otb,orow⟩],l++[⟨okd,otb,bef,aft⟩],false⟩)
    (y:=⟨bw,v4,rs++[⟨bo,okd,otb,⟨vn,hvn⟩,orow⟩],v2,cs++[⟨okd,otb,⟨.slice pvb (bef.map valV).length cvb,hvb⟩,bef,⟨.slice pa4 (aft.map valV).length ca4,ha4⟩,aft⟩]⟩)
    ⟨hv4c,hv2c,fun q hq=>by
     rcases List.mem_append.1 hq with hq|hq
     ·exact(h3 q hq).ext hE4
     ·rw[List.mem_singleton]at hq;subst hq;exact⟨w4,e4.vw w3⟩,by rw[List.map_append,h4];rfl,fun q hq=>by
     rcases List.mem_append.1 hq with hq|hq
     ·exact(h5 q hq).ext hE4
     ·rw[List.mem_singleton]at hq;subst hq;exact⟨(e3.trans e4).vw w2,e24.vw w1⟩,by rw[List.map_append,h6];rfl⟩ (by unfold txL;dsimp only;rw[m1,m2];exact Take.out takeD h)) ?_
   (refine rt_Y (y:=Q4) (hrs:=Tryz.results102) (hv:=?_) (hφ:=?_))
   ·rfl
   ·exact hE4
end Go.Proofs.YtmnafjonbeihiaaGreatDoor
namespace Go.Pl
open Go
def Tx.getT(x:Tx)(t:Int)(k:Vl):List Vl×Int:=if x.over then([],150)else x.own.getOp t k
end Go.Pl
namespace Go.Proofs.YtmnafjonbeihiaaGreatDoor
open Go Go.Fx Go.Proofs Go.Pl
theorem may_tx(b bn:Nat)(x:Tx)(P:HProp):FSpec Tryz.prog 92 [.pointer (some ⟨b,0,none⟩)] [txP P b bn x] Unit (fun _=>True) (fun _=>.int .i64 (bif x.over then 150 else 0)) (fun _=>[txP P b bn x]):=by
 refine fspec_ex ?_
 rintro⟨⟨bw,vr,rs,vl,cs⟩,hy⟩
 have hm:=fspec_frame' (txMay_spec b (.pointer (some ⟨bn,0,none⟩)) (.pointer (some ⟨bw,0,none⟩)) (.int .u64 x.t0) vr vl x.over) [row 178 1 vr (rs.map rmF),row 61 4 vl (cs.map cmV),relP P bw x.own]
 refine hm.conseq (fun _ _ s=>by unfold txL at s;simpa using s) (fun _ _=>⟨(),trivial,rfl,fun R h s=>?_⟩)
 exact tx_in hy (by unfold txL;dsimp only;simpa using s)
abbrev mayV(b:Nat):Value:=.func (.func 92) #[.pointer (some ⟨b,0,none⟩)] #[]
theorem mayV_spec(b bn:Nat)(x:Tx)(P:HProp)(F:List HProp):VSpec Tryz.prog (mayV b) [] (txP P b bn x::F) Unit (fun _=>True) (fun _=>.int .i64 (bif x.over then 150 else 0)) (fun _=>txP P b bn x::F):=
 vspec_frame (vspec_bound (args:=[]) (may_tx b bn x P)) F
set_option maxHeartbeats 1000000 in
theorem txDo_spec(b bn:Nat)(x:Tx)(o:Opr)(w:Value)(P:HProp)(hx:x.Ok)(hU:UT P)(hw:Vw P 4 w (o.row.map valV))(hwc:w.oneCell'=true)(hwf:∀ v∈o.row,v.wf)(hlen:o.row.length≤1000000):
  FSpec Tryz.prog 53 [.pointer (some ⟨b,0,none⟩),.agg #[.int .u8 o.kind,.int .i64 o.table,w]] [txP P b bn x,P] HProp (fun P'=>Ext P P') (fun _=>.int .i64 (x.doT o).2) (fun P'=>[txP P' b bn (x.doT o).1,P']):=by
 refine spec_intro [] _ Tryz.func53 rfl Tryz.ntmps53 (by rfl) (fun w0 R=>?_)
 repeat'(first|(refine gY ?_;intros)|(refine hY ?_ ?_<;>intro hgd)|(refine jY ?_ ?_<;>intro _)|fail)
 rename_i bt bo
 have hm:=mayV_spec b bn x P [P,pts bt (.cells [.pointer (some ⟨b,0,none⟩)].toArray 97),pts bo (.cells [.int .u8 o.kind,.int .i64 o.table,w].toArray 24)]
 cases hov:x.over with
 |true=>
  rw[hov,cond_true]at hm
  have he:x.doT o=(x,150):=by unfold Tx.doT;rw[hov,if_pos rfl]
  rw[he]
  refine cl_Y (when_no _ (.func (.func 102) #[] #[.pointer (some ⟨bt,0,none⟩),.pointer (some ⟨bo,0,none⟩)]) 150 (by decide) _ _ hm) ?_
  intro _ _
  repeat'(first|(refine gY ?_;intros)|(refine hY ?_ ?_<;>intro hgd)|(refine jY ?_ ?_<;>intro _)|fail)
  (refine rt_Y (y:=P) (hrs:=Tryz.results53) (hv:=?_) (hφ:=?_))
  ·rfl
  ·exact Ext.refl P
 |false=>
  rw[hov,cond_false]at hm
  have hd:=vspec_func (args:=[]) (cap:=[.pointer (some ⟨bt,0,none⟩),.pointer (some ⟨bo,0,none⟩)]) (txDo1_spec b bn bt bo x o w P hx hov hU hw hwc hwf hlen)
  refine cl_Y (when_yes _ _ _ _ hm hd) ?_
  intro P' hE
  repeat'(first|(refine gY ?_;intros)|(refine hY ?_ ?_<;>intro hgd)|(refine jY ?_ ?_<;>intro _)|fail)
  (refine rt_Y (y:=P') (hrs:=Tryz.results53) (hv:=?_) (hφ:=?_))
  ·rfl
  ·exact hE
end Go.Proofs.YtmnafjonbeihiaaGreatDoor
