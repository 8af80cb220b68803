/- Texts merged: KvM KvN KvO KvS. -/
import Derived.Test.YtgbmjoenbocfcaaGreatG18
import Derived.Test.YtgbmjoenbocfcaaGreatFwIv
import Derived.Test.YtgbmjoenbocfcaaGreatG20
set_option linter.unusedSimpArgs false
set_option linter.unusedVariables false
set_option maxRecDepth 100000
namespace Go.Proofs.YtgbmjoenbocfcaaGreat
open Go Go.Fx Go.Proofs Go.Pl
theorem und_inMem:Tryz.prog.underlying 90=some (.struct ((match Tryz.prog.underlying 90 with|some (.struct fs)=>fs|_=> #[]))):=by kernel_rfl
theorem und_inRun:Tryz.prog.underlying 152=some (.struct ((match Tryz.prog.underlying 152 with|some (.struct fs)=>fs|_=> #[]))):=by kernel_rfl
instance:MeI Tryz.prog 90 "fascicle/kv.next" 235:=mei_at (by kernel_rfl) und_inMem (fun e h=>by cases h)
instance:MeI Tryz.prog 152 "fascicle/kv.next" 236:=mei_at (by kernel_rfl) und_inRun (fun e h=>by cases h)
instance:Ty Tryz.prog 145 (.interface #[("fascicle/kv.next",33)]):=⟨Tryz.underlying145⟩
def Nxt(iv:Value)(D:HProp)(f:BA→BA→Int→List Pr×Int):Prop:=∀ (fr to:BA) (most:Int),1≤most→
 VSpec Tryz.prog (.func (.method "fascicle/kv.next") #[] #[]) [iv,.string fr,.string to,.int .i64 most] [D] V1s (fun _=>True) (fun y=>.tuple #[y.1,.int .i64 (f fr to most).2]) (fun y=>[row 65 3 y.1 ((f fr to most).1.map prV),D])
set_option maxHeartbeats 1600000 in
theorem fill_spec(cb:Nat)(iv v:Value)(to fr:BA)(yg:Int)(D:HProp)(f:BA→BA→Int→List Pr×Int)(t:TypeId)(x:Value)(hiv:iv= .iface t x)(hv:v.oneCell'=true)(hN:Nxt iv D f):
  FSpec Tryz.prog 89 [.pointer (some ⟨cb,0,none⟩),.string fr] [pts cb (.cells [iv,.string to,v,.int .i64 yg].toArray 148),D] V1s (fun _=>True) (fun _=>.int .i64 (f fr to 4).2)
   (fun y=>[pts cb (.cells [iv,.string to,y.1,.int .i64 yg].toArray 148),row 65 3 y.1 ((f fr to 4).1.map prV),D]):=by
 have hn:=hN fr to 4 (by decide)
 generalize f fr to 4=r at hn
 obtain⟨xs,e⟩:=r
 dsimp only at hn ⊢
 subst hiv
 refine spec_intro [] _ Tryz.func89 rfl Tryz.ntmps89 (by rfl) (fun w0 R=>?_)
 repeat'(first|(refine gY ?_;intros)|(refine hY ?_ ?_<;>intro hgd)|(refine jY ?_ ?_<;>intro _)|fail)
 refine ops_run (a_nilCheck_iface rfl rfl ?_)
 repeat'(first|(refine gY ?_;intros)|(refine hY ?_ ?_<;>intro hgd)|(refine jY ?_ ?_<;>intro _)|fail)
 refine ops_run (s_invoke hn (by rfl) (by(repeat(first|exact EvA.nil|(apply EvA.cons;(focus((conv=>lhs;whnf);first|done|rfl)))))) takeD (by rfl) (by rfl) ?_)
 rintro⟨u,hu⟩ _
 dsimp only
 repeat'(first|(refine gY ?_;intros)|(refine hY ?_ ?_<;>intro hgd)|(refine jY ?_ ?_<;>intro _)|fail)
 (refine rt_Y (y:=⟨u,hu⟩) (hrs:=Tryz.results89) (hv:=?_) (hφ:=?_))
 ·rfl
 ·trivial
theorem memNxt(mb:Nat)(l:List Pr)(ht:MemOk l):Nxt (.iface 90 (.agg #[.pointer (some ⟨mb,0,none⟩)])) (memX mb l) (fun fr to most=>(scanL fr to most l,0)):=fun fr to most h1=>by
 refine vspec_method (f:=235) (v:=.agg #[.pointer (some ⟨mb,0,none⟩)]) (args:=[.string fr,.string to,.int .i64 most]) ?_
 have hs:=mScanX mb l fr to most h1 ht
 refine spec_intro [] _ Tryz.func235 rfl Tryz.ntmps235 (by rfl) (fun w0 R=>?_)
 repeat'(first|(refine gY ?_;intros)|(refine hY ?_ ?_<;>intro hgd)|(refine jY ?_ ?_<;>intro _)|fail)
 refine cl_Y (hs) ?_
 intro v _
 refine ops_learn (rowShapeS (e:=65) (n:=3) (v:=v) (xs:=(scanL fr to most l).map prV) (by decide) takeD) ?_
 rintro⟨px,cx,rfl,hcx,hsx⟩
 repeat'(first|(refine gY ?_;intros)|(refine hY ?_ ?_<;>intro hgd)|(refine jY ?_ ?_<;>intro _)|fail)
 (refine rt_Y (y:=⟨.slice px ((scanL fr to most l).map prV).length cx,rfl⟩) (hrs:=Tryz.results235) (hv:=?_) (hφ:=?_))
 ·rfl
 ·trivial
set_option maxHeartbeats 1600000 in
theorem step_more(cb:Nat)(iv v:Value)(to:BA)(yg:Int)(A:HProp)(p q:Pr)(l:List Pr)(hiv:iv.oneCell'=true)(hA:Vw A 3 v ((p::q::l).map prV))(hcap:capOk v)(hz:l.length≤1000000):
  FSpec Tryz.prog 135 [.pointer (some ⟨cb,0,none⟩)] [pts cb (.cells [iv,.string to,v,.int .i64 yg].toArray 148),A] V1s (fun y=>Vw A 3 y.1 ((q::l).map prV)∧capOk y.1) (fun _=>.int .i64 0)
   (fun y=>[pts cb (.cells [iv,.string to,y.1,.int .i64 yg].toArray 148),A]):=by
 have hdr0:((p::q::l).map prV).drop 1=(q::l).map prV:=rfl
 have lm:((p::q::l).map prV).length=l.length+2:=by simp
 have hx:((p::q::l).map prV)[0]? =some (prV p):=rfl
 generalize (p::q::l).map prV=XS at hA hdr0 lm hx
 obtain⟨pk,pv,pg⟩:=p
 dsimp only[prV]at hx
 have hn0:0<XS.length:=by omega
 refine spec_intro [] _ Tryz.func135 rfl Tryz.ntmps135 (by rfl) (fun w0 R=>?_)
 refine ok_learn (VwIn.slice (VwIn.there (VwIn.here hA))) ?_
 rintro⟨pa,ca,rfl⟩
 refine ok_learn (VwIn.base (n:=3) (VwIn.there (VwIn.here hA)) (by intro e;rw[e]at lm;simp at lm)) ?_
 rintro⟨bu,ou,rfl⟩
 obtain⟨_,_,cc,hce,hcc⟩:=hcap
 cases hce
 have hdr:=hA.drop (k:=1) hcc
 rw[hdr0]at hdr
 have f1:decide ((0:Int)<((XS.length-1:Nat):Int))=true:=decide_eq_true (by omega)
 repeat'(first|(refine gY ?_;intros)|(refine hY ?_ ?_<;>intro hgd)|(refine jY ?_ ?_<;>intro _)|fail)
 refine ops_run (a_slice_viewlo rfl rfl (ix_lit _) (by omega) rfl ?_)
 repeat'(first|(refine gY ?_;intros)|(refine hY ?_ ?_<;>intro hgd)|(refine jY ?_ ?_<;>intro _)|fail)
 (refine rt_Y (y:=⟨dropV 3 (some ⟨bu,ou,none⟩) XS.length ca 1,rfl⟩) (hrs:=Tryz.results135) (hv:=?_) (hφ:=?_))
 ·rfl
 ·exact⟨hdr,_,_,_,rfl,by omega⟩
set_option maxHeartbeats 1600000 in
theorem step_fill(cb:Nat)(iv v:Value)(to:BA)(yg:Int)(A D:HProp)(f:BA→BA→Int→List Pr×Int)(t:TypeId)(x:Value)(hiv:iv= .iface t x)(hN:Nxt iv D f)(p:Pr)(hA:Vw A 3 v [prV p])(hcap:capOk v)(hz:p.k.size≤1000000):
  FSpec Tryz.prog 135 [.pointer (some ⟨cb,0,none⟩)] [pts cb (.cells [iv,.string to,v,.int .i64 yg].toArray 148),A,D] V1s (fun _=>True) (fun _=>.int .i64 (f (p.k++⟨#[0]⟩) to 4).2)
   (fun y=>[pts cb (.cells [iv,.string to,y.1,.int .i64 yg].toArray 148),row 65 3 y.1 ((f (p.k++⟨#[0]⟩) to 4).1.map prV),A,D]):=by
 have hF:=fun(w:Value) (hw:w.oneCell'=true)=>fill_spec cb iv w to (p.k++⟨#[0]⟩) yg D f t x hiv hw hN
 have hx:[prV p][0]? =some (prV p):=rfl
 have lm:[prV p].length=1:=rfl
 generalize f (p.k++⟨#[0]⟩) to 4=r at hF
 have hv1:iv.oneCell'=true:=by rw[hiv];rfl
 obtain⟨pk,pv,pg⟩:=p
 dsimp only[prV]at hx hz hF
 generalize hXS:[prV ⟨pk,pv,pg⟩]=XS at hA lm
 rw[show [[Value.string pk,Value.string pv,Value.bool pg]]=XS from hXS]at hx
 clear hXS
 have z1:ByteArray.size (⟨#[0]⟩:ByteArray)=1:=rfl
 have hn0:0<XS.length:=by omega
 refine spec_intro [] _ Tryz.func135 rfl Tryz.ntmps135 (by rfl) (fun w0 R=>?_)
 refine ok_learn (VwIn.slice (VwIn.there (VwIn.here hA))) ?_
 rintro⟨pa,ca,rfl⟩
 refine ok_learn (VwIn.base (n:=3) (VwIn.there (VwIn.here hA)) (by intro e;rw[e]at lm;simp at lm)) ?_
 rintro⟨bu,ou,rfl⟩
 obtain⟨_,_,cc,hce,hcc⟩:=hcap
 cases hce
 have f1:decide ((0:Int)<((XS.length-1:Nat):Int))=false:=decide_eq_false (by omega)
 repeat'(first|(refine gY ?_;intros)|(refine hY ?_ ?_<;>intro hgd)|(refine jY ?_ ?_<;>intro _)|fail)
 refine ops_run (a_slice_viewlo rfl rfl (ix_lit _) (by omega) rfl ?_)
 repeat'(first|(refine gY ?_;intros)|(refine hY ?_ ?_<;>intro hgd)|(refine jY ?_ ?_<;>intro _)|fail)
 refine cl_Y (hF (dropV 3 (some ⟨bu,ou,none⟩) XS.length ca 1) rfl) ?_
 rintro⟨u,hu⟩ _
 repeat'(first|(refine gY ?_;intros)|(refine hY ?_ ?_<;>intro hgd)|(refine jY ?_ ?_<;>intro _)|fail)
 (refine rt_Y (y:=⟨u,hu⟩) (hrs:=Tryz.results135) (hv:=?_) (hφ:=?_))
 ·rfl
 ·trivial
abbrev srcRun(rb:Nat):Value:=.iface 152 (.agg #[.pointer (some ⟨rb,0,none⟩)])
abbrev srcMem(mb:Nat):Value:=.iface 90 (.agg #[.pointer (some ⟨mb,0,none⟩)])
def scanR2(rd:En→Pr×Int)(es:List En)(fr to:BA)(most:Int):List Pr×Int:=
 (colR (eat (goR most) [] (yR rd to (es.drop (posR es fr)))).1,errR (eat (goR most) [] (yR rd to (es.drop (posR es fr)))).1)
theorem runNxt(rb b:Nat)(nm:BA)(v:Value)(sz:Int)(es:List En)(D:HProp)(rd:En→Pr×Int)(hs:Sorted (es.map (·.p)))(hz:es.length≤1099511627776)
  (hrd:∀ x∈es,FSpec Tryz.prog 88 [.pointer (some ⟨rb,0,none⟩),.agg (enV x).toArray] [rnP rb b nm v sz,D] Unit (fun _=>True) (fun _=>.tuple #[.agg (prV (rd x).1).toArray,.int .i64 (rd x).2]) (fun _=>[rnP rb b nm v sz,D]))(fr to:BA)(most:Int)(hm:1≤most):
  VSpec Tryz.prog (.func (.method "fascicle/kv.next") #[] #[]) [srcRun rb,.string fr,.string to,.int .i64 most] [rnP rb b nm v sz,enP v es,D] V1s (fun _=>True) (fun y=>.tuple #[y.1,.int .i64 (scanR2 rd es fr to most).2])
   (fun y=>[row 65 3 y.1 ((scanR2 rd es fr to most).1.map prV),rnP rb b nm v sz,enP v es,D]):=by
 refine vspec_method (f:=236) (v:=.agg #[.pointer (some ⟨rb,0,none⟩)]) (args:=[.string fr,.string to,.int .i64 most]) ?_
 have hS:=rScan_spec rb b fr to nm v sz es D rd most hm hs hz hrd
 unfold scanR2
 dsimp only
 generalize (eat (goR most) [] (yR rd to (es.drop (posR es fr)))).1=q at hS
 refine spec_intro [] _ Tryz.func236 rfl Tryz.ntmps236 (by rfl) (fun w0 R=>?_)
 repeat'(first|(refine gY ?_;intros)|(refine hY ?_ ?_<;>intro hgd)|(refine jY ?_ ?_<;>intro _)|fail)
 refine cl_Y (hS) ?_
 rintro⟨u,hu⟩ _
 dsimp only
 repeat'(first|(refine gY ?_;intros)|(refine hY ?_ ?_<;>intro hgd)|(refine jY ?_ ?_<;>intro _)|fail)
 (refine rt_Y (y:=⟨u,hu⟩) (hrs:=Tryz.results236) (hv:=?_) (hφ:=?_))
 ·rfl
 ·trivial
instance:Ty Tryz.prog 152 (.struct ((match Tryz.prog.underlying 152 with|some (.struct fs)=>fs|_=> #[]))):=⟨und_inRun⟩
instance:Ty Tryz.prog 90 (.struct ((match Tryz.prog.underlying 90 with|some (.struct fs)=>fs|_=> #[]))):=⟨und_inMem⟩
set_option maxHeartbeats 1600000 in
theorem sources_spec(kb b:Nat)(nm:BA)(m:Mn)(mv wp:Value)(mb:Nat)(rv:Value)(ft:Int)(rs:List Ru)(A:HProp)(hA:Vw A 1 rv (rs.map krV))(hz:rs.length≤1000):
  FSpec Tryz.prog 38 [.pointer (some ⟨kb,0,none⟩)] [kvP kb b nm m mv wp mb rv ft,A] V1s (fun _=>True) (fun y=>y.1) (fun y=>[row 145 1 y.1 (rs.map fun x=>[srcRun x.rb]),kvP kb b nm m mv wp mb rv ft,A]):=by
 have lm:(rs.map krV).length=rs.length:=by simp
 unfold kvP kvC
 refine spec_intro [] _ Tryz.func38 rfl Tryz.ntmps38 (by rfl) (fun w0 R=>?_)
 refine ok_learn (VwIn.slice (VwIn.there (VwIn.here hA))) ?_
 rintro⟨pa,ca,rfl⟩
 repeat'(first|(refine gY ?_;intros)|(refine hY ?_ ?_<;>intro hgd)|(refine jY ?_ ?_<;>intro _)|fail)
 refine ok_map (fun _ h=>nilRow (e:=145) (n:=1) h) ?_
 refine ok_map (L':=[kvP kb b nm m mv wp mb (.slice pa (rs.map krV).length ca) ft,row 145 1 (.slice none 0 0) ((rs.take 0).map fun x=>[srcRun x.rb]),A]++R) entD ?_
 refine ok_loop' (γ:=Nat×V1s) (fun g ρ L=>g.1≤rs.length∧Knows ρ [(2,g.2.1),(8,.slice pa (rs.map krV).length ca),(9,.int .i64 ((rs.map krV).length:Int)),(10,.int .i64 (g.1:Int))]∧
   L=[kvP kb b nm m mv wp mb (.slice pa (rs.map krV).length ca) ft,row 145 1 g.2.1 ((rs.take g.1).map fun x=>[srcRun x.rb]),A]++R) (fun g=>rs.length-g.1) (0,⟨.slice none 0 0,rfl⟩) ⟨Nat.zero_le _,⟨rfl,rfl,rfl,rfl,trivial⟩,rfl⟩ ?_
 rintro⟨i,⟨w,hw⟩⟩ ρ L ⟨hi,hk,rfl⟩
 dsimp only at hi hk ⊢
 refine ok_regs hk ?_
 have hl2:(rs.take i).length=i:=by rw[List.length_take];omega
 refine ok_learn (rowShapeS (e:=145) (n:=1) (v:=w) (xs:=(rs.take i).map fun x=>[srcRun x.rb]) (by decide) takeD) ?_
 rintro⟨px,cx,rfl,hcx,hsx⟩
 cases t1:decide ((i:Int)<((rs.map krV).length:Int))with
 |false=>
  have hie:i=rs.length:=by have:=of_decide_eq_false t1;omega
  rw[show rs.take i=rs by rw[hie,List.take_length]]
  repeat'(first|(refine gY ?_;intros)|(refine hY ?_ ?_<;>intro hgd)|(refine jY ?_ ?_<;>intro _)|fail)
  (refine rt_Y (y:=⟨.slice px (rs.map fun x=>[srcRun x.rb]).length cx,rfl⟩) (hrs:=Tryz.results38) (hv:=?_) (hφ:=?_))
  ·rfl
  ·trivial
 |true=>
  have h0:i<rs.length:=by have:=of_decide_eq_true t1;omega
  have hx:(rs.map krV)[i]? =some [.pointer (some ⟨rs[i].rb,0,none⟩)]:=by rw[List.getElem?_map,List.getElem?_eq_getElem h0];rfl
  have hn1:i<(rs.map krV).length:=by omega
  have hst:(rs.take (i+1)).map (fun x=>[srcRun x.rb])=(rs.take i).map (fun x=>[srcRun x.rb])++[[srcRun rs[i].rb]]:=by rw[List.take_succ_eq_append_getElem h0,List.map_append];rfl
  generalize rs[i].rb=rb at hx hst
  refine ok_learn (VwIn.base (n:=1) (xs:=rs.map krV) (VwIn.there (VwIn.there (VwIn.here hA))) (by intro e;rw[e]at hn1;simp at hn1)) ?_
  rintro⟨bu,ou,rfl⟩
  repeat'(first|(refine gY ?_;intros)|(refine hY ?_ ?_<;>intro hgd)|(refine jY ?_ ?_<;>intro _)|fail)
  rename_i v1 hv1 v2 hv2
  refine cont_map (L':=[kvP kb b nm m mv wp mb (.slice (some ⟨bu,ou,none⟩) (rs.map krV).length ca) ft,row 145 1 v2 ((rs.take (i+1)).map fun x=>[srcRun x.rb]),A]++R) (by rw[hst];exact entD) ?_
  exact cont_back (i+1,⟨v2,hv2⟩) ⟨h0,⟨rfl,rfl,rfl,rfl,trivial⟩,rfl⟩ (by dsimp only;omega)
theorem kFault_nil:FSpec Tryz.prog 19 [.pointer none] [] Unit (fun _=>True) (fun _=>.int .i64 1) (fun _=>[]):=by
 refine spec_intro [] _ Tryz.func19 rfl Tryz.ntmps19 (by rfl) (fun w0 R=>?_)
 repeat'(first|(refine gY ?_;intros)|(refine hY ?_ ?_<;>intro hgd)|(refine jY ?_ ?_<;>intro _)|fail)
 (refine rt_Y (y:=()) (hrs:=Tryz.results19) (hv:=?_) (hφ:=?_))
 ·rfl
 ·trivial
theorem kRuns_nil:FSpec Tryz.prog 18 [.pointer none] [] Unit (fun _=>True) (fun _=>.int .i64 0) (fun _=>[]):=by
 refine spec_intro [] _ Tryz.func18 rfl Tryz.ntmps18 (by rfl) (fun w0 R=>?_)
 repeat'(first|(refine gY ?_;intros)|(refine hY ?_ ?_<;>intro hgd)|(refine jY ?_ ?_<;>intro _)|fail)
 (refine rt_Y (y:=()) (hrs:=Tryz.results18) (hv:=?_) (hφ:=?_))
 ·rfl
 ·trivial
theorem kGet_nil(key:BA):FSpec Tryz.prog 10 [.pointer none,.string key] [] Unit (fun _=>True) (fun _=>.tuple #[.string ⟨#[]⟩,.bool false,.int .i64 1]) (fun _=>[]):=by
 refine spec_intro [] _ Tryz.func10 rfl Tryz.ntmps10 (by rfl) (fun w0 R=>?_)
 repeat'(first|(refine gY ?_;intros)|(refine hY ?_ ?_<;>intro hgd)|(refine jY ?_ ?_<;>intro _)|fail)
 (refine rt_Y (y:=()) (hrs:=Tryz.results10) (hv:=?_) (hφ:=?_))
 ·rfl
 ·trivial
theorem kScan_nil(fr to:BA)(most:Int):FSpec Tryz.prog 11 [.pointer none,.string fr,.string to,.int .i64 most] [] Unit (fun _=>True) (fun _=>.tuple #[.slice none 0 0,.int .i64 1]) (fun _=>[]):=by
 refine spec_intro [] _ Tryz.func11 rfl Tryz.ntmps11 (by rfl) (fun w0 R=>?_)
 repeat'(first|(refine gY ?_;intros)|(refine hY ?_ ?_<;>intro hgd)|(refine jY ?_ ?_<;>intro _)|fail)
 (refine rt_Y (y:=()) (hrs:=Tryz.results11) (hv:=?_) (hφ:=?_))
 ·rfl
 ·trivial
theorem kFlush_nil:FSpec Tryz.prog 16 [.pointer none] [] Unit (fun _=>True) (fun _=>.int .i64 1) (fun _=>[]):=by
 refine spec_intro [] _ Tryz.func16 rfl Tryz.ntmps16 (by rfl) (fun w0 R=>?_)
 repeat'(first|(refine gY ?_;intros)|(refine hY ?_ ?_<;>intro hgd)|(refine jY ?_ ?_<;>intro _)|fail)
 refine cl_Y (kFault_nil) ?_
 intro _ _
 repeat'(first|(refine gY ?_;intros)|(refine hY ?_ ?_<;>intro hgd)|(refine jY ?_ ?_<;>intro _)|fail)
 (refine rt_Y (y:=()) (hrs:=Tryz.results16) (hv:=?_) (hφ:=?_))
 ·rfl
 ·trivial
theorem kCompact_nil:FSpec Tryz.prog 17 [.pointer none] [] Unit (fun _=>True) (fun _=>.int .i64 1) (fun _=>[]):=by
 refine spec_intro [] _ Tryz.func17 rfl Tryz.ntmps17 (by rfl) (fun w0 R=>?_)
 repeat'(first|(refine gY ?_;intros)|(refine hY ?_ ?_<;>intro hgd)|(refine jY ?_ ?_<;>intro _)|fail)
 refine cl_Y (kFault_nil) ?_
 intro _ _
 repeat'(first|(refine gY ?_;intros)|(refine hY ?_ ?_<;>intro hgd)|(refine jY ?_ ?_<;>intro _)|fail)
 (refine rt_Y (y:=()) (hrs:=Tryz.results17) (hv:=?_) (hφ:=?_))
 ·rfl
 ·trivial
theorem kRuns_spec(kb b mb:Nat)(nm:BA)(ft:Int)(K:Kv)(hz:K.rs.length≤1000):FSpec Tryz.prog 18 [.pointer (some ⟨kb,0,none⟩)] [stP kb b nm mb ft (kvD b mb nm K)] Unit (fun _=>True) (fun _=>.int .i64 (K.rs.length:Int)) (fun _=>[stP kb b nm mb ft (kvD b mb nm K)]):=by
 refine fspec_ex ?_
 rintro⟨m,⟨mv,hmv⟩,⟨wp,hwp⟩,⟨rv,hrv⟩⟩
 show FSpec _ _ _ (exP (kvM b mb nm K ⟨m,⟨mv,hmv⟩,⟨wp,hwp⟩,⟨rv,hrv⟩⟩)::[kvP kb b nm m mv wp mb rv ft]) _ _ _ _
 refine fspec_ex ?_
 rintro⟨wb,rs,g1,g2,g3⟩
 dsimp only at g1 g2 g3
 subst g1 g2
 have hl:(rs.map krV).length=K.rs.length:=by rw[← g3,List.length_map,List.length_map]
 unfold kvM kvP kvC
 dsimp only
 refine spec_intro [] _ Tryz.func18 rfl Tryz.ntmps18 (by rfl) (fun w0 R=>?_)
 refine ok_learn (rowShapeS (e:=83) (n:=1) (v:=rv) (xs:=rs.map krV) (by decide) takeD) ?_
 rintro⟨px,cx,rfl,_,_⟩
 repeat'(first|(refine gY ?_;intros)|(refine hY ?_ ?_<;>intro hgd)|(refine jY ?_ ?_<;>intro _)|fail)
 rw[hl]
 refine cont_map (L':=[row 70 1 mv (K.m.runs.map uV),row 83 1 (.slice px (rs.map krV).length cx) (rs.map krV),runsX b nm rs,walP wb b (fileK nm walK K.m.wal.toNat) K.w,diskP b K.d,memX mb K.mem,kvP kb b nm K.m mv (.pointer (some ⟨wb,0,none⟩)) mb (.slice px (rs.map krV).length cx) ft]++R) (by rw[← hl];exact entD) ?_
 refine cont_map (fun _ h=>kv_in (b:=b) (mb:=mb) (nm:=nm) (K:=K) (g:=⟨K.m,⟨mv,hmv⟩,⟨.pointer (some ⟨wb,0,none⟩),hwp⟩,⟨.slice px (rs.map krV).length cx,rfl⟩⟩) ⟨wb,rs,rfl,rfl,g3⟩ h) ?_
 refine cont_map (fun _ h=>st_in (kb:=kb) (b:=b) (nm:=nm) (mb:=mb) (ft:=ft) (D:=kvD b mb nm K) ⟨K.m,⟨mv,hmv⟩,⟨.pointer (some ⟨wb,0,none⟩),hwp⟩,⟨.slice px (rs.map krV).length cx,rfl⟩⟩ h) ?_
 (refine rt_Y (y:=()) (hrs:=Tryz.results18) (hv:=?_) (hφ:=?_))
 ·rfl
 ·trivial
end Go.Proofs.YtgbmjoenbocfcaaGreat
