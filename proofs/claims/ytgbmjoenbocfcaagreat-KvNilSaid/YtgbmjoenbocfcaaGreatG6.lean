/- Texts merged: DkE DkF DkG DkH. -/
import Derived.Test.YtgbmjoenbocfcaaGreatG5
import Derived.Test.YtgbmjoenbocfcaaGreatY
set_option linter.unusedSimpArgs false
set_option linter.unusedVariables false
set_option maxRecDepth 100000
namespace Go.Proofs.YtgbmjoenbocfcaaGreat
open Go Go.Fx Go.Proofs Go.Pl
theorem lay_spec(m bn bs:Nat)(F:FS)(n s:ByteArray)(k:Int)(hk:0≤k)(hz:(ftext n F).size+s.size≤1099511627776):FSpec Tryz.prog 154 [.map (some m),.int .i64 k,.pointer (some ⟨bn,0,none⟩),.pointer (some ⟨bs,0,none⟩)]
  [mapK KStr m (encF F),pts bn (.cells [.string n].toArray 9),pts bs (.cells [.string s].toArray 9)] Unit (fun _=>True) (fun _=>.tuple #[])
  (fun _=>[mapK KStr m (encF (fput n (ftext n F++s.extract 0 (if(s.size:Int)<k then(s.size:Int)else k).toNat) F)),pts bn (.cells [.string n].toArray 9),pts bs (.cells [.string s].toArray 9)]):=by
 have hg:=getK_encF n F
 have hr:0≤(if(s.size:Int)<k then(s.size:Int)else k)∧(if(s.size:Int)<k then(s.size:Int)else k)≤(s.size:Int):=by split<;>omega
 have hx:(s.extract 0 (if(s.size:Int)<k then(s.size:Int)else k).toNat).size≤s.size:=by rw[ByteArray.size_extract];omega
 have hp:=putK_encF n (ftext n F++s.extract 0 (if(s.size:Int)<k then(s.size:Int)else k).toNat) F
 rw[← hp]
 clear hp
 cases hf:fget n F with
 |none=>
  rw[hf]at hg
  simp only[Option.map_none]at hg
  have ht:ftext n F=({data:= #[]}:ByteArray):=by unfold ftext;rw[hf];rfl
  rw[ht]at hz ⊢
  refine spec_intro [] _ Tryz.func154 rfl Tryz.ntmps154 (by rfl) (fun w0 R=>?_)
  repeat'(first|(refine gY ?_;intros)|(refine hY ?_ ?_<;>intro hgd)|(refine jY ?_ ?_<;>intro _)|fail)
  (refine rt_Y (y:=()) (hrs:=Tryz.results154) (hv:=?_) (hφ:=?_))
  ·rfl
  ·trivial
 |some t=>
  rw[hf]at hg
  simp only[Option.map_some]at hg
  have ht:ftext n F=t:=by unfold ftext;rw[hf];rfl
  rw[ht]at hz ⊢
  refine spec_intro [] _ Tryz.func154 rfl Tryz.ntmps154 (by rfl) (fun w0 R=>?_)
  repeat'(first|(refine gY ?_;intros)|(refine hY ?_ ?_<;>intro hgd)|(refine jY ?_ ?_<;>intro _)|fail)
  (refine rt_Y (y:=()) (hrs:=Tryz.results154) (hv:=?_) (hφ:=?_))
  ·rfl
  ·trivial
theorem lay_whole{s:ByteArray}:s.extract 0 (if(s.size:Int)<(s.size:Int)then(s.size:Int)else(s.size:Int)).toNat=s:=by
 rw[if_neg (by omega)]
 have:((s.size:Int)).toNat=s.size:=by simp
 rw[this]
 exact ByteArray.extract_zero_size
theorem app2_spec(m bn bs bl:Nat)(F:FS)(n s:ByteArray)(hz:(ftext n F).size+s.size≤1099511627776):FSpec Tryz.prog 155 [.map (some m),.pointer (some ⟨bl,0,none⟩),.pointer (some ⟨bs,0,none⟩)]
  [mapK KStr m (encF F),pts bn (.cells [.string n].toArray 9),pts bs (.cells [.string s].toArray 9),pts bl (.cells [.func (.func 154) #[] [.pointer (some ⟨bn,0,none⟩),.pointer (some ⟨bs,0,none⟩)].toArray].toArray 115)] Unit (fun _=>True) (fun _=>.tuple #[])
  (fun _=>[mapK KStr m (encF (Cl.run (.app n s) F)),pts bn (.cells [.string n].toArray 9),pts bs (.cells [.string s].toArray 9),pts bl (.cells [.func (.func 154) #[] [.pointer (some ⟨bn,0,none⟩),.pointer (some ⟨bs,0,none⟩)].toArray].toArray 115)]):=by
 have hv:=vspec_func (args:=[.map (some m),.int .i64 (s.size:Int)]) (cap:=[.pointer (some ⟨bn,0,none⟩),.pointer (some ⟨bs,0,none⟩)]) (lay_spec m bn bs F n s s.size (by omega) hz)
 rw[lay_whole]at hv
 refine spec_intro [] _ Tryz.func155 rfl Tryz.ntmps155 (by rfl) (fun w0 R=>?_)
 repeat'(first|(refine gY ?_;intros)|(refine hY ?_ ?_<;>intro hgd)|(refine jY ?_ ?_<;>intro _)|fail)
 refine clV_Y (hv) ?_
 intro _ _
 repeat'(first|(refine gY ?_;intros)|(refine hY ?_ ?_<;>intro hgd)|(refine jY ?_ ?_<;>intro _)|fail)
 (refine rt_Y (y:=()) (hrs:=Tryz.results155) (hv:=?_) (hφ:=?_))
 ·rfl
 ·trivial
theorem trunc1_spec(m bn bk:Nat)(F:FS)(n:ByteArray)(k:Int)(h0:0≤k)(h1:k≤((ftext n F).size:Int)):FSpec Tryz.prog 178 [.map (some m),.pointer (some ⟨bn,0,none⟩),.pointer (some ⟨bk,0,none⟩)]
  [mapK KStr m (encF F),pts bn (.cells [.string n].toArray 9),pts bk (.cells [.int .i64 k].toArray 3)] Unit (fun _=>True) (fun _=>.tuple #[])
  (fun _=>[mapK KStr m (encF (Cl.run (.trunc n k) F)),pts bn (.cells [.string n].toArray 9),pts bk (.cells [.int .i64 k].toArray 3)]):=by
 have hg:=getK_encF n F
 have hp:=putK_encF n ((ftext n F).extract 0 k.toNat) F
 have hrun:Cl.run (.trunc n k) F=fput n ((ftext n F).extract 0 k.toNat) F:=rfl
 rw[hrun,← hp]
 clear hp hrun
 cases hf:fget n F with
 |none=>
  rw[hf]at hg
  simp only[Option.map_none]at hg
  have ht:ftext n F=({data:= #[]}:ByteArray):=by unfold ftext;rw[hf];rfl
  rw[ht]at h1 ⊢
  refine spec_intro [] _ Tryz.func178 rfl Tryz.ntmps178 (by rfl) (fun w0 R=>?_)
  repeat'(first|(refine gY ?_;intros)|(refine hY ?_ ?_<;>intro hgd)|(refine jY ?_ ?_<;>intro _)|fail)
  (refine rt_Y (y:=()) (hrs:=Tryz.results178) (hv:=?_) (hφ:=?_))
  ·rfl
  ·trivial
 |some t=>
  rw[hf]at hg
  simp only[Option.map_some]at hg
  have ht:ftext n F=t:=by unfold ftext;rw[hf];rfl
  rw[ht]at h1 ⊢
  refine spec_intro [] _ Tryz.func178 rfl Tryz.ntmps178 (by rfl) (fun w0 R=>?_)
  repeat'(first|(refine gY ?_;intros)|(refine hY ?_ ?_<;>intro hgd)|(refine jY ?_ ?_<;>intro _)|fail)
  (refine rt_Y (y:=()) (hrs:=Tryz.results178) (hv:=?_) (hφ:=?_))
  ·rfl
  ·trivial
theorem ren1_spec(m ba bb:Nat)(F:FS)(a b:ByteArray):FSpec Tryz.prog 163 [.map (some m),.pointer (some ⟨ba,0,none⟩),.pointer (some ⟨bb,0,none⟩)]
  [mapK KStr m (encF F),pts ba (.cells [.string a].toArray 9),pts bb (.cells [.string b].toArray 9)] Unit (fun _=>True) (fun _=>.tuple #[])
  (fun _=>[mapK KStr m (encF (Cl.run (.ren a b) F)),pts ba (.cells [.string a].toArray 9),pts bb (.cells [.string b].toArray 9)]):=by
 have hg:=getK_encF a F
 have hp:=putK_encF b (ftext a F) F
 have hd:=delK_encF a (fput b (ftext a F) F)
 have hrun:Cl.run (.ren a b) F=fdel a (fput b (ftext a F) F):=rfl
 rw[hrun,← hd,← hp]
 clear hp hrun hd
 cases hf:fget a F with
 |none=>
  rw[hf]at hg
  simp only[Option.map_none]at hg
  have ht:ftext a F=({data:= #[]}:ByteArray):=by unfold ftext;rw[hf];rfl
  rw[ht]
  refine spec_intro [] _ Tryz.func163 rfl Tryz.ntmps163 (by rfl) (fun w0 R=>?_)
  repeat'(first|(refine gY ?_;intros)|(refine hY ?_ ?_<;>intro hgd)|(refine jY ?_ ?_<;>intro _)|fail)
  (refine rt_Y (y:=()) (hrs:=Tryz.results163) (hv:=?_) (hφ:=?_))
  ·rfl
  ·trivial
 |some t=>
  rw[hf]at hg
  simp only[Option.map_some]at hg
  have ht:ftext a F=t:=by unfold ftext;rw[hf];rfl
  rw[ht]
  refine spec_intro [] _ Tryz.func163 rfl Tryz.ntmps163 (by rfl) (fun w0 R=>?_)
  repeat'(first|(refine gY ?_;intros)|(refine hY ?_ ?_<;>intro hgd)|(refine jY ?_ ?_<;>intro _)|fail)
  (refine rt_Y (y:=()) (hrs:=Tryz.results163) (hv:=?_) (hφ:=?_))
  ·rfl
  ·trivial
theorem rem1_spec(m ba:Nat)(F:FS)(a:ByteArray):FSpec Tryz.prog 142 [.map (some m),.pointer (some ⟨ba,0,none⟩)]
  [mapK KStr m (encF F),pts ba (.cells [.string a].toArray 9)] Unit (fun _=>True) (fun _=>.tuple #[])
  (fun _=>[mapK KStr m (encF (Cl.run (.rem a) F)),pts ba (.cells [.string a].toArray 9)]):=by
 have hrun:Cl.run (.rem a) F=fdel a F:=rfl
 rw[hrun,← delK_encF]
 refine spec_intro [] _ Tryz.func142 rfl Tryz.ntmps142 (by rfl) (fun w0 R=>?_)
 repeat'(first|(refine gY ?_;intros)|(refine hY ?_ ?_<;>intro hgd)|(refine jY ?_ ?_<;>intro _)|fail)
 (refine rt_Y (y:=()) (hrs:=Tryz.results142) (hv:=?_) (hφ:=?_))
 ·rfl
 ·trivial
theorem whole_v(c:Cl)(v0 v1:Value)(m:Nat)(F:FS)(hok:c.ok F):VSpec Tryz.prog v0 [.map (some m)] [clP c [v0,v1],mapK KStr m (encF F)] Unit (fun _=>True) (fun _=>.tuple #[]) (fun _=>[clP c [v0,v1],mapK KStr m (encF (c.run F))]):=by
 cases c with
 |app n s=>
  unfold clP
  refine vspec_ex ?_
  rintro⟨⟨bn,bs,bl⟩,hv⟩
  cases hv
  refine VSpec.conseq (vspec_func (args:=[.map (some m)]) (cap:=[.pointer (some ⟨bl,0,none⟩),.pointer (some ⟨bs,0,none⟩)]) (app2_spec m bn bs bl F n s hok)) (fun _=>entD) (fun _ _=>⟨(),trivial,rfl,fun R h s=>?_⟩)
  exact ex_in ⟨(bn,bs,bl),rfl⟩ rfl ((entD) _ s)
 |trunc n k=>
  unfold clP
  refine vspec_ex ?_
  rintro⟨⟨bn,bk⟩,hv⟩
  cases hv
  refine VSpec.conseq (vspec_func (args:=[.map (some m)]) (cap:=[.pointer (some ⟨bn,0,none⟩),.pointer (some ⟨bk,0,none⟩)]) (trunc1_spec m bn bk F n k hok.1 hok.2)) (fun _=>entD) (fun _ _=>⟨(),trivial,rfl,fun R h s=>?_⟩)
  exact ex_in ⟨(bn,bk),rfl⟩ rfl ((entD) _ s)
 |ren a b=>
  unfold clP
  refine vspec_ex ?_
  rintro⟨⟨ba,bb⟩,hv⟩
  cases hv
  refine VSpec.conseq (vspec_func (args:=[.map (some m)]) (cap:=[.pointer (some ⟨ba,0,none⟩),.pointer (some ⟨bb,0,none⟩)]) (ren1_spec m ba bb F a b)) (fun _=>entD) (fun _ _=>⟨(),trivial,rfl,fun R h s=>?_⟩)
  exact ex_in ⟨(ba,bb),rfl⟩ rfl ((entD) _ s)
 |rem a=>
  unfold clP
  refine vspec_ex ?_
  rintro⟨ba,hv⟩
  cases hv
  refine VSpec.conseq (vspec_func (args:=[.map (some m)]) (cap:=[.pointer (some ⟨ba,0,none⟩)]) (rem1_spec m ba F a)) (fun _=>entD) (fun _ _=>⟨(),trivial,rfl,fun R h s=>?_⟩)
  exact ex_in ⟨ba,rfl⟩ rfl ((entD) _ s)
theorem clsP_snoc:∀ {cs:List Cl} {vs:List (List Value)} (c:Cl) (v:List Value),vs.length=cs.length→clsP (cs++[c]) (vs++[v])=clsP cs vs++[clP c v]
 | [],[],_,_,_=>rfl
 | [],_::_,_,_,h=>by cases h
 |_::_,[],_,_,h=>by cases h
 |d::cs,w::vs,c,v,h=>by
  have:=clsP_snoc c v (by simpa using h:vs.length=cs.length)
  show clP d w::clsP (cs++[c]) (vs++[v])=_
  rw[this];rfl
theorem clsP_add{cs:List Cl}{vs:List (List Value)}{c:Cl}{v:List Value}(hl:vs.length=cs.length){L:List HProp}{h:Frag}(s:SatL ((fun h=>SatL (clsP cs vs) h)::clP c v::L) h):SatL ((fun h=>SatL (clsP (cs++[c]) (vs++[v])) h)::L) h:=by
 rw[clsP_snoc c v hl]
 have s1:=SatL.flat s
 exact SatL.unflat (M:=clsP cs vs++[clP c v]) (by rw[List.append_assoc];exact s1)
theorem do_spec(b:Nat)(d:Dk)(c:Cl)(v0 v1:Value)(h0:v0.oneCell'=true)(h1:v1.oneCell'=true)(hd:d.Ok)(hc:c.ok d.files)(hl:d.loose.length≤1099511627776):
  FSpec Tryz.prog 141 [.pointer (some ⟨b,0,none⟩),.agg [v0,v1].toArray] [diskP b d,clP c [v0,v1]] Unit (fun _=>True) (fun _=>.int .i64 (d.doC c).2) (fun _=>[diskP b (d.doC c).1]):=by
 refine fspec_ex ?_
 rintro⟨⟨m1,m2,v,vs⟩,hv,hvs⟩
 have f0:=hd.fuse0
 have fM:=hd.fuseM
 unfold diskL
 dsimp only[dkC]
 by_cases hf:d.fuse=0
 ·have e:d.doC c=({d with still:=true},20):=by unfold Dk.doC;rw[if_pos hf]
  rw[e]
  dsimp only[dkC]
  refine spec_intro [] _ Tryz.func141 rfl Tryz.ntmps141 (by rfl) (fun w0 R=>?_)
  repeat'(first|(refine gY ?_;intros)|(refine hY ?_ ?_<;>intro hgd)|(refine jY ?_ ?_<;>intro _)|fail)
  refine cl_Y (burn_spec b [] (.map (some m1)) (.map (some m2)) v (.int .i64 d.room) d.fuse d.still f0 fM) ?_
  intro _ _
  rw[if_pos hf,if_pos hf,if_pos hf]
  repeat'(first|(refine gY ?_;intros)|(refine hY ?_ ?_<;>intro hgd)|(refine jY ?_ ?_<;>intro _)|fail)
  refine cont_map (fun _ h=>disk_in (b:=b) (m1:=m1) (m2:=m2) (d:={d with still:=true}) (v:=v) (vs:=vs) hv hvs (Take.out takeD h)) ?_
  (refine rt_Y (y:=()) (hrs:=Tryz.results141) (hv:=?_) (hφ:=?_))
  ·rfl
  ·trivial
 ·have e:d.doC c=({d with fuse:=if(-1:Int)>d.fuse-1 then -1 else d.fuse-1,files:=c.run d.files,loose:=d.loose++[c]},0):=by unfold Dk.doC;rw[if_neg hf]
  rw[e]
  dsimp only at hv hvs ⊢
  have hw:=whole_v c v0 v1 m1 d.files hc
  have hl2:(vs.length+ [[v0,v1]].length)*16≤140737488355328:=by simp only[List.length_cons,List.length_nil];omega
  have hone:oneCells [v0,v1]=true:=by simp[oneCells,h0,h1]
  have hgB:goodB 2 [[v0,v1]]=true:=by simp[goodB,hone]
  refine spec_intro [] _ Tryz.func141 rfl Tryz.ntmps141 (by rfl) (fun w0 R=>?_)
  repeat'(first|(refine gY ?_;intros)|(refine hY ?_ ?_<;>intro hgd)|(refine jY ?_ ?_<;>intro _)|fail)
  refine cl_Y (burn_spec b [] (.map (some m1)) (.map (some m2)) v (.int .i64 d.room) d.fuse d.still f0 fM) ?_
  intro _ _
  rw[if_neg hf,if_neg hf,if_neg hf]
  repeat'(first|(refine gY ?_;intros)|(refine hY ?_ ?_<;>intro hgd)|(refine jY ?_ ?_<;>intro _)|fail)
  refine clV_Y (hw) ?_
  intro _ _
  repeat'(first|(refine gY ?_;intros)|(refine hY ?_ ?_<;>intro hgd)|(refine jY ?_ ?_<;>intro _)|fail)
  (apply ok_draw [6];(focus(kernel_rfl));(focus((conv=>lhs;whnf);first|done|rfl));(focus(decide +kernel));(focus(exact(fun _ h=>h))))
  repeat'(first|(refine gY ?_;intros)|(refine hY ?_ ?_<;>intro hgd)|(refine jY ?_ ?_<;>intro _)|fail)
  rename_i w hw'
  refine cont_map (fun _ h=>clsP_add (c:=c) (v:=[v0,v1]) hvs (Take.out2 (A:=fun h=>SatL (clsP d.loose vs) h) (B:=clP c [v0,v1]) takeD h)) ?_
  refine cont_map (fun _ h=>disk_in (b:=b) (m1:=m1) (m2:=m2) (d:={d with fuse:=if(-1:Int)>d.fuse-1 then -1 else d.fuse-1,files:=c.run d.files,loose:=d.loose++[c]}) (v:=w) (vs:=vs++[[v0,v1]]) hw' (by simp[hvs]) (Take.out takeD h)) ?_
  (refine rt_Y (y:=()) (hrs:=Tryz.results141) (hv:=?_) (hφ:=?_))
  ·rfl
  ·trivial
theorem cl_app{bn bs bl:Nat}{n s:ByteArray}{L:List HProp}{h:Frag}(k:SatL ([pts bn (.cells [.string n].toArray 9),pts bs (.cells [.string s].toArray 9),pts bl (.cells [.func (.func 154) #[] [.pointer (some ⟨bn,0,none⟩),.pointer (some ⟨bs,0,none⟩)].toArray].toArray 115)]++L) h):
 SatL (clP (.app n s) [.func (.func 155) #[] [.pointer (some ⟨bl,0,none⟩),.pointer (some ⟨bs,0,none⟩)].toArray,.func (.func 154) #[] [.pointer (some ⟨bn,0,none⟩),.pointer (some ⟨bs,0,none⟩)].toArray]::L) h:=ex_in ⟨(bn,bs,bl),rfl⟩ rfl k
theorem cl_trunc{bn bk:Nat}{n:ByteArray}{j:Int}{L:List HProp}{h:Frag}(k:SatL ([pts bn (.cells [.string n].toArray 9),pts bk (.cells [.int .i64 j].toArray 3)]++L) h):
 SatL (clP (.trunc n j) [.func (.func 178) #[] [.pointer (some ⟨bn,0,none⟩),.pointer (some ⟨bk,0,none⟩)].toArray,.nilFunc]::L) h:=ex_in ⟨(bn,bk),rfl⟩ rfl k
theorem cl_ren{ba bb:Nat}{a b:ByteArray}{L:List HProp}{h:Frag}(k:SatL ([pts ba (.cells [.string a].toArray 9),pts bb (.cells [.string b].toArray 9)]++L) h):
 SatL (clP (.ren a b) [.func (.func 163) #[] [.pointer (some ⟨ba,0,none⟩),.pointer (some ⟨bb,0,none⟩)].toArray,.nilFunc]::L) h:=ex_in ⟨(ba,bb),rfl⟩ rfl k
theorem cl_rem{ba:Nat}{a:ByteArray}{L:List HProp}{h:Frag}(k:SatL ([pts ba (.cells [.string a].toArray 9)]++L) h):
 SatL (clP (.rem a) [.func (.func 142) #[] [.pointer (some ⟨ba,0,none⟩)].toArray,.nilFunc]::L) h:=ex_in ⟨ba,rfl⟩ rfl k
theorem append_spec(b:Nat)(d:Dk)(name s:ByteArray)(hd:d.Ok)(hl:d.loose.length≤1099511627776)(hn:name.size≤4611686018427387904)(hs:s.size≤549755813888):
  FSpec Tryz.prog 109 [.pointer (some ⟨b,0,none⟩),.string name,.string s] [diskP b d] Unit (fun _=>True) (fun _=>.int .i64 (d.append name s).2) (fun _=>[diskP b (d.append name s).1]):=by
 refine fspec_ex ?_
 rintro⟨⟨m1,m2,v,vs⟩,hv,hvs⟩
 unfold diskL
 dsimp only at hv hvs ⊢
 have hu:=hd.used
 have hns:∀ x∈[name],x.size≤4611686018427387904:=by simpa using hn
 have ht:=ftext_le name d.files
 have hus:fused d.files≤4611686018427387904:=by omega
 unfold Dk.append
 by_cases h1:d.live [name]=0
 ·have t1:(!decide (d.live [name]=0))=false:=by simp[h1]
  rw[if_neg (by simp[h1])]
  cases h2:(!(s.toList==[]))with
  |false=>
   have t2:(!(s.toList==({data:= #[]}:ByteArray).toList))=false:=by rw[nil_toList];exact h2
   rw[Bool.false_and,if_neg (by simp)]
   have hdo:=do_spec b d (.app name s)
   refine spec_intro [] _ Tryz.func109 rfl Tryz.ntmps109 (by rfl) (fun w0 R=>?_)
   repeat'(first|(refine gY ?_;intros)|(refine hY ?_ ?_<;>intro hgd)|(refine jY ?_ ?_<;>intro _)|fail)
   rename_i bn bs vn hvn
   refine cl_Y (live_spec b [] (.map (some m1)) (.map (some m2)) v (.int .i64 d.room) (.int .i64 d.fuse) d vn (row 9 1 vn [[.string name]]) [name] Vw.row hns (by simp)) ?_
   intro _ _
   rw[h1]
   repeat'(first|(refine gY ?_;intros)|(refine hY ?_ ?_<;>intro hgd)|(refine jY ?_ ?_<;>intro _)|fail)
   refine ok_drawL (cv:=[]) [4] ([pts bs _,pts b _]) (takeD) (by kernel_rfl) rfl (by decide +kernel) ?_
   repeat'(first|(refine gY ?_;intros)|(refine hY ?_ ?_<;>intro hgd)|(refine jY ?_ ?_<;>intro _)|fail)
   refine opsL_map (fun _ h=>disk_in (b:=b) (m1:=m1) (m2:=m2) (d:=d) (v:=v) (vs:=vs) hv hvs (Take.out takeD h)) ?_
   rename_i bl
   refine opsL_map (fun _ h=>cl_app (bn:=bn) (bs:=bs) (bl:=bl) (n:=name) (s:=s) (Take.out takeD h)) ?_
   refine cl_Y (hdo _ _ rfl rfl hd (by show(ftext name d.files).size+s.size≤_;omega) hl) ?_
   intro _ _
   repeat'(first|(refine gY ?_;intros)|(refine hY ?_ ?_<;>intro hgd)|(refine jY ?_ ?_<;>intro _)|fail)
   (refine rt_Y (y:=()) (hrs:=Tryz.results109) (hv:=?_) (hφ:=?_))
   ·rfl
   ·trivial
  |true=>
   have t2:(!(s.toList==({data:= #[]}:ByteArray).toList))=true:=by rw[nil_toList];exact h2
   rw[Bool.true_and]
   cases h3:decide (d.room<(fused d.files:Int)+s.size)with
   |true=>
    rw[if_pos rfl]
    refine spec_intro [] _ Tryz.func109 rfl Tryz.ntmps109 (by rfl) (fun w0 R=>?_)
    repeat'(first|(refine gY ?_;intros)|(refine hY ?_ ?_<;>intro hgd)|(refine jY ?_ ?_<;>intro _)|fail)
    rename_i bn bs vn hvn
    refine cl_Y (live_spec b [] (.map (some m1)) (.map (some m2)) v (.int .i64 d.room) (.int .i64 d.fuse) d vn (row 9 1 vn [[.string name]]) [name] Vw.row hns (by simp)) ?_
    intro _ _
    rw[h1]
    repeat'(first|(refine gY ?_;intros)|(refine hY ?_ ?_<;>intro hgd)|(refine jY ?_ ?_<;>intro _)|fail)
    refine ok_drawL (cv:=[]) [4] ([pts bs _,pts b _]) (takeD) (by kernel_rfl) rfl (by decide +kernel) ?_
    repeat'(first|(refine gY ?_;intros)|(refine hY ?_ ?_<;>intro hgd)|(refine jY ?_ ?_<;>intro _)|fail)
    refine clN_Y (used_spec b m1 d.files (.map (some m2)) v (.int .i64 d.room) (.int .i64 d.fuse) (.bool d.still) hus) ?_
    intro _ _
    repeat'(first|(refine gY ?_;intros)|(refine hY ?_ ?_<;>intro hgd)|(refine jY ?_ ?_<;>intro _)|fail)
    refine cont_map (fun _ h=>disk_in (b:=b) (m1:=m1) (m2:=m2) (d:=d) (v:=v) (vs:=vs) hv hvs (Take.out takeD h)) ?_
    (refine rt_Y (y:=()) (hrs:=Tryz.results109) (hv:=?_) (hφ:=?_))
    ·rfl
    ·trivial
   |false=>
    rw[if_neg (by simp)]
    have hok:(ftext name d.files).size+s.size≤1099511627776:=by
     have hr:=hd.roomM
     simp only[decide_eq_false_iff_not]at h3
     omega
    have hdo:=do_spec b d (.app name s)
    refine spec_intro [] _ Tryz.func109 rfl Tryz.ntmps109 (by rfl) (fun w0 R=>?_)
    repeat'(first|(refine gY ?_;intros)|(refine hY ?_ ?_<;>intro hgd)|(refine jY ?_ ?_<;>intro _)|fail)
    rename_i bn bs vn hvn
    refine cl_Y (live_spec b [] (.map (some m1)) (.map (some m2)) v (.int .i64 d.room) (.int .i64 d.fuse) d vn (row 9 1 vn [[.string name]]) [name] Vw.row hns (by simp)) ?_
    intro _ _
    rw[h1]
    repeat'(first|(refine gY ?_;intros)|(refine hY ?_ ?_<;>intro hgd)|(refine jY ?_ ?_<;>intro _)|fail)
    refine ok_drawL (cv:=[]) [4] ([pts bs _,pts b _]) (takeD) (by kernel_rfl) rfl (by decide +kernel) ?_
    repeat'(first|(refine gY ?_;intros)|(refine hY ?_ ?_<;>intro hgd)|(refine jY ?_ ?_<;>intro _)|fail)
    refine clN_Y (used_spec b m1 d.files (.map (some m2)) v (.int .i64 d.room) (.int .i64 d.fuse) (.bool d.still) hus) ?_
    intro _ _
    repeat'(first|(refine gY ?_;intros)|(refine hY ?_ ?_<;>intro hgd)|(refine jY ?_ ?_<;>intro _)|fail)
    refine opsL_map (fun _ h=>disk_in (b:=b) (m1:=m1) (m2:=m2) (d:=d) (v:=v) (vs:=vs) hv hvs (Take.out takeD h)) ?_
    rename_i bl
    refine opsL_map (fun _ h=>cl_app (bn:=bn) (bs:=bs) (bl:=bl) (n:=name) (s:=s) (Take.out takeD h)) ?_
    refine cl_Y (hdo _ _ rfl rfl hd hok hl) ?_
    intro _ _
    repeat'(first|(refine gY ?_;intros)|(refine hY ?_ ?_<;>intro hgd)|(refine jY ?_ ?_<;>intro _)|fail)
    (refine rt_Y (y:=()) (hrs:=Tryz.results109) (hv:=?_) (hφ:=?_))
    ·rfl
    ·trivial
 ·have t1:(!decide (d.live [name]=0))=true:=by simp[h1]
  rw[if_pos h1]
  refine spec_intro [] _ Tryz.func109 rfl Tryz.ntmps109 (by rfl) (fun w0 R=>?_)
  repeat'(first|(refine gY ?_;intros)|(refine hY ?_ ?_<;>intro hgd)|(refine jY ?_ ?_<;>intro _)|fail)
  rename_i bn bs vn hvn
  refine cl_Y (live_spec b [] (.map (some m1)) (.map (some m2)) v (.int .i64 d.room) (.int .i64 d.fuse) d vn (row 9 1 vn [[.string name]]) [name] Vw.row hns (by simp)) ?_
  intro _ _
  repeat'(first|(refine gY ?_;intros)|(refine hY ?_ ?_<;>intro hgd)|(refine jY ?_ ?_<;>intro _)|fail)
  refine cont_map (fun _ h=>disk_in (b:=b) (m1:=m1) (m2:=m2) (d:=d) (v:=v) (vs:=vs) hv hvs (Take.out takeD h)) ?_
  (refine rt_Y (y:=()) (hrs:=Tryz.results109) (hv:=?_) (hφ:=?_))
  ·rfl
  ·trivial
theorem truncate_spec(b:Nat)(d:Dk)(name:ByteArray)(n:Int)(hd:d.Ok)(hl:d.loose.length≤1099511627776)(hn:name.size≤4611686018427387904):
  FSpec Tryz.prog 147 [.pointer (some ⟨b,0,none⟩),.string name,.int .i64 n] [diskP b d] Unit (fun _=>True) (fun _=>.int .i64 (d.truncate name n).2) (fun _=>[diskP b (d.truncate name n).1]):=by
 refine fspec_ex ?_
 rintro⟨⟨m1,m2,v,vs⟩,hv,hvs⟩
 unfold diskL
 dsimp only at hv hvs ⊢
 have hns:∀ x∈[name],x.size≤4611686018427387904:=by simpa using hn
 unfold Dk.truncate
 by_cases h1:d.live [name]=0
 ·have t1:(!decide (d.live [name]=0))=false:=by simp[h1]
  rw[if_neg (by simp[h1])]
  cases h2:decide (n<0)with
  |true=>
   rw[if_pos (by simpa using h2)]
   refine spec_intro [] _ Tryz.func147 rfl Tryz.ntmps147 (by rfl) (fun w0 R=>?_)
   repeat'(first|(refine gY ?_;intros)|(refine hY ?_ ?_<;>intro hgd)|(refine jY ?_ ?_<;>intro _)|fail)
   rename_i bn bk vn hvn
   refine cl_Y (live_spec b [] (.map (some m1)) (.map (some m2)) v (.int .i64 d.room) (.int .i64 d.fuse) d vn (row 9 1 vn [[.string name]]) [name] Vw.row hns (by simp)) ?_
   intro _ _
   rw[h1]
   repeat'(first|(refine gY ?_;intros)|(refine hY ?_ ?_<;>intro hgd)|(refine jY ?_ ?_<;>intro _)|fail)
   refine cont_map (fun _ h=>disk_in (b:=b) (m1:=m1) (m2:=m2) (d:=d) (v:=v) (vs:=vs) hv hvs (Take.out takeD h)) ?_
   (refine rt_Y (y:=()) (hrs:=Tryz.results147) (hv:=?_) (hφ:=?_))
   ·rfl
   ·trivial
  |false=>
   rw[if_neg (by simpa using h2)]
   have hg:=getK_encF name d.files
   have hh:d.has name=(fget name d.files).isSome:=rfl
   cases hf:fget name d.files with
   |none=>
    rw[if_pos (by rw[hh,hf];rfl)]
    refine spec_intro [] _ Tryz.func147 rfl Tryz.ntmps147 (by rfl) (fun w0 R=>?_)
    repeat'(first|(refine gY ?_;intros)|(refine hY ?_ ?_<;>intro hgd)|(refine jY ?_ ?_<;>intro _)|fail)
    rename_i bn bk vn hvn
    refine cl_Y (live_spec b [] (.map (some m1)) (.map (some m2)) v (.int .i64 d.room) (.int .i64 d.fuse) d vn (row 9 1 vn [[.string name]]) [name] Vw.row hns (by simp)) ?_
    intro _ _
    rw[h1]
    repeat'(first|(refine gY ?_;intros)|(refine hY ?_ ?_<;>intro hgd)|(refine jY ?_ ?_<;>intro _)|fail)
    refine cl_Y (has_spec b m1 d.files name (.map (some m2)) v (.int .i64 d.room) (.int .i64 d.fuse) (.bool d.still)) ?_
    intro _ _
    rw[hf]
    repeat'(first|(refine gY ?_;intros)|(refine hY ?_ ?_<;>intro hgd)|(refine jY ?_ ?_<;>intro _)|fail)
    refine cont_map (fun _ h=>disk_in (b:=b) (m1:=m1) (m2:=m2) (d:=d) (v:=v) (vs:=vs) hv hvs (Take.out takeD h)) ?_
    (refine rt_Y (y:=()) (hrs:=Tryz.results147) (hv:=?_) (hφ:=?_))
    ·rfl
    ·trivial
   |some t=>
    have ht:ftext name d.files=t:=by unfold ftext;rw[hf];rfl
    rw[if_neg (by rw[hh,hf];simp),ht]
    rw[hf]at hg
    simp only[Option.map_some]at hg
    cases h3:decide ((t.size:Int)<n)with
    |true=>
     rw[if_pos (by simpa using h3)]
     refine spec_intro [] _ Tryz.func147 rfl Tryz.ntmps147 (by rfl) (fun w0 R=>?_)
     repeat'(first|(refine gY ?_;intros)|(refine hY ?_ ?_<;>intro hgd)|(refine jY ?_ ?_<;>intro _)|fail)
     rename_i bn bk vn hvn
     refine cl_Y (live_spec b [] (.map (some m1)) (.map (some m2)) v (.int .i64 d.room) (.int .i64 d.fuse) d vn (row 9 1 vn [[.string name]]) [name] Vw.row hns (by simp)) ?_
     intro _ _
     rw[h1]
     repeat'(first|(refine gY ?_;intros)|(refine hY ?_ ?_<;>intro hgd)|(refine jY ?_ ?_<;>intro _)|fail)
     refine cl_Y (has_spec b m1 d.files name (.map (some m2)) v (.int .i64 d.room) (.int .i64 d.fuse) (.bool d.still)) ?_
     intro _ _
     rw[hf]
     repeat'(first|(refine gY ?_;intros)|(refine hY ?_ ?_<;>intro hgd)|(refine jY ?_ ?_<;>intro _)|fail)
     refine cont_map (fun _ h=>disk_in (b:=b) (m1:=m1) (m2:=m2) (d:=d) (v:=v) (vs:=vs) hv hvs (Take.out takeD h)) ?_
     (refine rt_Y (y:=()) (hrs:=Tryz.results147) (hv:=?_) (hφ:=?_))
     ·rfl
     ·trivial
    |false=>
     rw[if_neg (by simpa using h3)]
     have hok:Cl.ok (.trunc name n) d.files:=⟨by simpa using h2,by rw[ht];simpa using h3⟩
     have hdo:=do_spec b d (.trunc name n)
     refine spec_intro [] _ Tryz.func147 rfl Tryz.ntmps147 (by rfl) (fun w0 R=>?_)
     repeat'(first|(refine gY ?_;intros)|(refine hY ?_ ?_<;>intro hgd)|(refine jY ?_ ?_<;>intro _)|fail)
     rename_i bn bk vn hvn
     refine cl_Y (live_spec b [] (.map (some m1)) (.map (some m2)) v (.int .i64 d.room) (.int .i64 d.fuse) d vn (row 9 1 vn [[.string name]]) [name] Vw.row hns (by simp)) ?_
     intro _ _
     rw[h1]
     repeat'(first|(refine gY ?_;intros)|(refine hY ?_ ?_<;>intro hgd)|(refine jY ?_ ?_<;>intro _)|fail)
     refine cl_Y (has_spec b m1 d.files name (.map (some m2)) v (.int .i64 d.room) (.int .i64 d.fuse) (.bool d.still)) ?_
     intro _ _
     rw[hf]
     repeat'(first|(refine gY ?_;intros)|(refine hY ?_ ?_<;>intro hgd)|(refine jY ?_ ?_<;>intro _)|fail)
     refine opsL_map (fun _ h=>disk_in (b:=b) (m1:=m1) (m2:=m2) (d:=d) (v:=v) (vs:=vs) hv hvs (Take.out takeD h)) ?_
     refine opsL_map (fun _ h=>cl_trunc (bn:=bn) (bk:=bk) (n:=name) (j:=n) (Take.out takeD h)) ?_
     refine cl_Y (hdo _ _ rfl rfl hd hok hl) ?_
     intro _ _
     repeat'(first|(refine gY ?_;intros)|(refine hY ?_ ?_<;>intro hgd)|(refine jY ?_ ?_<;>intro _)|fail)
     (refine rt_Y (y:=()) (hrs:=Tryz.results147) (hv:=?_) (hφ:=?_))
     ·rfl
     ·trivial
 ·have t1:(!decide (d.live [name]=0))=true:=by simp[h1]
  rw[if_pos h1]
  refine spec_intro [] _ Tryz.func147 rfl Tryz.ntmps147 (by rfl) (fun w0 R=>?_)
  repeat'(first|(refine gY ?_;intros)|(refine hY ?_ ?_<;>intro hgd)|(refine jY ?_ ?_<;>intro _)|fail)
  rename_i bn bs vn hvn
  refine cl_Y (live_spec b [] (.map (some m1)) (.map (some m2)) v (.int .i64 d.room) (.int .i64 d.fuse) d vn (row 9 1 vn [[.string name]]) [name] Vw.row hns (by simp)) ?_
  intro _ _
  repeat'(first|(refine gY ?_;intros)|(refine hY ?_ ?_<;>intro hgd)|(refine jY ?_ ?_<;>intro _)|fail)
  refine cont_map (fun _ h=>disk_in (b:=b) (m1:=m1) (m2:=m2) (d:=d) (v:=v) (vs:=vs) hv hvs (Take.out takeD h)) ?_
  (refine rt_Y (y:=()) (hrs:=Tryz.results147) (hv:=?_) (hφ:=?_))
  ·rfl
  ·trivial
theorem rename_spec(b:Nat)(d:Dk)(x y:ByteArray)(hd:d.Ok)(hl:d.loose.length≤1099511627776)(hx:x.size≤4611686018427387904)(hy:y.size≤4611686018427387904):
  FSpec Tryz.prog 117 [.pointer (some ⟨b,0,none⟩),.string x,.string y] [diskP b d] Unit (fun _=>True) (fun _=>.int .i64 (d.rename x y).2) (fun _=>[diskP b (d.rename x y).1]):=by
 refine fspec_ex ?_
 rintro⟨⟨m1,m2,v,vs⟩,hv,hvs⟩
 unfold diskL
 dsimp only at hv hvs ⊢
 have hns:∀ z∈[x,y],z.size≤4611686018427387904:=by simp[hx,hy]
 unfold Dk.rename
 by_cases h1:d.live [x,y]=0
 ·have t1:(!decide (d.live [x,y]=0))=false:=by simp[h1]
  rw[if_neg (by simp[h1])]
  cases h2:(x.toList==y.toList)with
  |true=>
   rw[if_pos rfl]
   refine spec_intro [] _ Tryz.func117 rfl Tryz.ntmps117 (by rfl) (fun w0 R=>?_)
   repeat'(first|(refine gY ?_;intros)|(refine hY ?_ ?_<;>intro hgd)|(refine jY ?_ ?_<;>intro _)|fail)
   rename_i bx by_ vn hvn
   refine cl_Y (live_spec b [] (.map (some m1)) (.map (some m2)) v (.int .i64 d.room) (.int .i64 d.fuse) d vn (row 9 1 vn [[.string x],[.string y]]) [x,y] Vw.row hns (by simp)) ?_
   intro _ _
   rw[h1]
   repeat'(first|(refine gY ?_;intros)|(refine hY ?_ ?_<;>intro hgd)|(refine jY ?_ ?_<;>intro _)|fail)
   refine cont_map (fun _ h=>disk_in (b:=b) (m1:=m1) (m2:=m2) (d:=d) (v:=v) (vs:=vs) hv hvs (Take.out takeD h)) ?_
   (refine rt_Y (y:=()) (hrs:=Tryz.results117) (hv:=?_) (hφ:=?_))
   ·rfl
   ·trivial
  |false=>
   rw[if_neg (by simp)]
   have hh:d.has x=(fget x d.files).isSome:=rfl
   cases hf:fget x d.files with
   |none=>
    rw[if_pos (by rw[hh,hf];rfl)]
    refine spec_intro [] _ Tryz.func117 rfl Tryz.ntmps117 (by rfl) (fun w0 R=>?_)
    repeat'(first|(refine gY ?_;intros)|(refine hY ?_ ?_<;>intro hgd)|(refine jY ?_ ?_<;>intro _)|fail)
    rename_i bx by_ vn hvn
    refine cl_Y (live_spec b [] (.map (some m1)) (.map (some m2)) v (.int .i64 d.room) (.int .i64 d.fuse) d vn (row 9 1 vn [[.string x],[.string y]]) [x,y] Vw.row hns (by simp)) ?_
    intro _ _
    rw[h1]
    repeat'(first|(refine gY ?_;intros)|(refine hY ?_ ?_<;>intro hgd)|(refine jY ?_ ?_<;>intro _)|fail)
    refine cl_Y (has_spec b m1 d.files x (.map (some m2)) v (.int .i64 d.room) (.int .i64 d.fuse) (.bool d.still)) ?_
    intro _ _
    rw[hf]
    repeat'(first|(refine gY ?_;intros)|(refine hY ?_ ?_<;>intro hgd)|(refine jY ?_ ?_<;>intro _)|fail)
    refine cont_map (fun _ h=>disk_in (b:=b) (m1:=m1) (m2:=m2) (d:=d) (v:=v) (vs:=vs) hv hvs (Take.out takeD h)) ?_
    (refine rt_Y (y:=()) (hrs:=Tryz.results117) (hv:=?_) (hφ:=?_))
    ·rfl
    ·trivial
   |some t=>
    rw[if_neg (by rw[hh,hf];simp)]
    have hdo:=do_spec b d (.ren x y)
    refine spec_intro [] _ Tryz.func117 rfl Tryz.ntmps117 (by rfl) (fun w0 R=>?_)
    repeat'(first|(refine gY ?_;intros)|(refine hY ?_ ?_<;>intro hgd)|(refine jY ?_ ?_<;>intro _)|fail)
    rename_i bx by_ vn hvn
    refine cl_Y (live_spec b [] (.map (some m1)) (.map (some m2)) v (.int .i64 d.room) (.int .i64 d.fuse) d vn (row 9 1 vn [[.string x],[.string y]]) [x,y] Vw.row hns (by simp)) ?_
    intro _ _
    rw[h1]
    repeat'(first|(refine gY ?_;intros)|(refine hY ?_ ?_<;>intro hgd)|(refine jY ?_ ?_<;>intro _)|fail)
    refine cl_Y (has_spec b m1 d.files x (.map (some m2)) v (.int .i64 d.room) (.int .i64 d.fuse) (.bool d.still)) ?_
    intro _ _
    rw[hf]
    repeat'(first|(refine gY ?_;intros)|(refine hY ?_ ?_<;>intro hgd)|(refine jY ?_ ?_<;>intro _)|fail)
    refine opsL_map (fun _ h=>disk_in (b:=b) (m1:=m1) (m2:=m2) (d:=d) (v:=v) (vs:=vs) hv hvs (Take.out takeD h)) ?_
    refine opsL_map (fun _ h=>cl_ren (ba:=bx) (bb:=by_) (a:=x) (b:=y) (Take.out takeD h)) ?_
    refine cl_Y (hdo _ _ rfl rfl hd trivial hl) ?_
    intro _ _
    repeat'(first|(refine gY ?_;intros)|(refine hY ?_ ?_<;>intro hgd)|(refine jY ?_ ?_<;>intro _)|fail)
    (refine rt_Y (y:=()) (hrs:=Tryz.results117) (hv:=?_) (hφ:=?_))
    ·rfl
    ·trivial
 ·have t1:(!decide (d.live [x,y]=0))=true:=by simp[h1]
  rw[if_pos h1]
  refine spec_intro [] _ Tryz.func117 rfl Tryz.ntmps117 (by rfl) (fun w0 R=>?_)
  repeat'(first|(refine gY ?_;intros)|(refine hY ?_ ?_<;>intro hgd)|(refine jY ?_ ?_<;>intro _)|fail)
  rename_i bx by_ vn hvn
  refine cl_Y (live_spec b [] (.map (some m1)) (.map (some m2)) v (.int .i64 d.room) (.int .i64 d.fuse) d vn (row 9 1 vn [[.string x],[.string y]]) [x,y] Vw.row hns (by simp)) ?_
  intro _ _
  repeat'(first|(refine gY ?_;intros)|(refine hY ?_ ?_<;>intro hgd)|(refine jY ?_ ?_<;>intro _)|fail)
  refine cont_map (fun _ h=>disk_in (b:=b) (m1:=m1) (m2:=m2) (d:=d) (v:=v) (vs:=vs) hv hvs (Take.out takeD h)) ?_
  (refine rt_Y (y:=()) (hrs:=Tryz.results117) (hv:=?_) (hφ:=?_))
  ·rfl
  ·trivial
theorem remove_spec(b:Nat)(d:Dk)(x:ByteArray)(hd:d.Ok)(hl:d.loose.length≤1099511627776)(hx:x.size≤4611686018427387904):
  FSpec Tryz.prog 94 [.pointer (some ⟨b,0,none⟩),.string x] [diskP b d] Unit (fun _=>True) (fun _=>.int .i64 (d.remove x).2) (fun _=>[diskP b (d.remove x).1]):=by
 refine fspec_ex ?_
 rintro⟨⟨m1,m2,v,vs⟩,hv,hvs⟩
 unfold diskL
 dsimp only at hv hvs ⊢
 have hns:∀ z∈[x],z.size≤4611686018427387904:=by simp[hx]
 unfold Dk.remove
 by_cases h1:d.live [x]=0
 ·have t1:(!decide (d.live [x]=0))=false:=by simp[h1]
  rw[if_neg (by simp[h1])]
  have hh:d.has x=(fget x d.files).isSome:=rfl
  cases hf:fget x d.files with
  |none=>
   rw[if_pos (by rw[hh,hf];rfl)]
   refine spec_intro [] _ Tryz.func94 rfl Tryz.ntmps94 (by rfl) (fun w0 R=>?_)
   repeat'(first|(refine gY ?_;intros)|(refine hY ?_ ?_<;>intro hgd)|(refine jY ?_ ?_<;>intro _)|fail)
   rename_i bx vn hvn
   refine cl_Y (live_spec b [] (.map (some m1)) (.map (some m2)) v (.int .i64 d.room) (.int .i64 d.fuse) d vn (row 9 1 vn [[.string x]]) [x] Vw.row hns (by simp)) ?_
   intro _ _
   rw[h1]
   repeat'(first|(refine gY ?_;intros)|(refine hY ?_ ?_<;>intro hgd)|(refine jY ?_ ?_<;>intro _)|fail)
   refine cl_Y (has_spec b m1 d.files x (.map (some m2)) v (.int .i64 d.room) (.int .i64 d.fuse) (.bool d.still)) ?_
   intro _ _
   rw[hf]
   repeat'(first|(refine gY ?_;intros)|(refine hY ?_ ?_<;>intro hgd)|(refine jY ?_ ?_<;>intro _)|fail)
   refine cont_map (fun _ h=>disk_in (b:=b) (m1:=m1) (m2:=m2) (d:=d) (v:=v) (vs:=vs) hv hvs (Take.out takeD h)) ?_
   (refine rt_Y (y:=()) (hrs:=Tryz.results94) (hv:=?_) (hφ:=?_))
   ·rfl
   ·trivial
  |some t=>
   rw[if_neg (by rw[hh,hf];simp)]
   have hdo:=do_spec b d (.rem x)
   refine spec_intro [] _ Tryz.func94 rfl Tryz.ntmps94 (by rfl) (fun w0 R=>?_)
   repeat'(first|(refine gY ?_;intros)|(refine hY ?_ ?_<;>intro hgd)|(refine jY ?_ ?_<;>intro _)|fail)
   rename_i bx vn hvn
   refine cl_Y (live_spec b [] (.map (some m1)) (.map (some m2)) v (.int .i64 d.room) (.int .i64 d.fuse) d vn (row 9 1 vn [[.string x]]) [x] Vw.row hns (by simp)) ?_
   intro _ _
   rw[h1]
   repeat'(first|(refine gY ?_;intros)|(refine hY ?_ ?_<;>intro hgd)|(refine jY ?_ ?_<;>intro _)|fail)
   refine cl_Y (has_spec b m1 d.files x (.map (some m2)) v (.int .i64 d.room) (.int .i64 d.fuse) (.bool d.still)) ?_
   intro _ _
   rw[hf]
   repeat'(first|(refine gY ?_;intros)|(refine hY ?_ ?_<;>intro hgd)|(refine jY ?_ ?_<;>intro _)|fail)
   refine opsL_map (fun _ h=>disk_in (b:=b) (m1:=m1) (m2:=m2) (d:=d) (v:=v) (vs:=vs) hv hvs (Take.out takeD h)) ?_
   refine opsL_map (fun _ h=>cl_rem (ba:=bx) (a:=x) (Take.out takeD h)) ?_
   refine cl_Y (hdo _ _ rfl rfl hd trivial hl) ?_
   intro _ _
   repeat'(first|(refine gY ?_;intros)|(refine hY ?_ ?_<;>intro hgd)|(refine jY ?_ ?_<;>intro _)|fail)
   (refine rt_Y (y:=()) (hrs:=Tryz.results94) (hv:=?_) (hφ:=?_))
   ·rfl
   ·trivial
 ·have t1:(!decide (d.live [x]=0))=true:=by simp[h1]
  rw[if_pos h1]
  refine spec_intro [] _ Tryz.func94 rfl Tryz.ntmps94 (by rfl) (fun w0 R=>?_)
  repeat'(first|(refine gY ?_;intros)|(refine hY ?_ ?_<;>intro hgd)|(refine jY ?_ ?_<;>intro _)|fail)
  rename_i bx vn hvn
  refine cl_Y (live_spec b [] (.map (some m1)) (.map (some m2)) v (.int .i64 d.room) (.int .i64 d.fuse) d vn (row 9 1 vn [[.string x]]) [x] Vw.row hns (by simp)) ?_
  intro _ _
  repeat'(first|(refine gY ?_;intros)|(refine hY ?_ ?_<;>intro hgd)|(refine jY ?_ ?_<;>intro _)|fail)
  refine cont_map (fun _ h=>disk_in (b:=b) (m1:=m1) (m2:=m2) (d:=d) (v:=v) (vs:=vs) hv hvs (Take.out takeD h)) ?_
  (refine rt_Y (y:=()) (hrs:=Tryz.results94) (hv:=?_) (hφ:=?_))
  ·rfl
  ·trivial
end Go.Proofs.YtgbmjoenbocfcaaGreat
