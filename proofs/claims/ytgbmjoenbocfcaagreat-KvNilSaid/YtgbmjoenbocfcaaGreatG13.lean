/- Texts merged: MemA MemB MemC MemD. -/
import Derived.Test.YtgbmjoenbocfcaaGreatY
import Derived.Test.YtgbmjoenbocfcaaGreatFwY
import Derived.Test.YtgbmjoenbocfcaaGreatStr
set_option linter.unusedSimpArgs false
set_option linter.unusedVariables false
set_option maxRecDepth 100000
namespace Go.Proofs.YtgbmjoenbocfcaaGreat
open Go Go.Fx Go.Proofs Go.Pl
def pairV(p:Pr):List Value:=[.string p.k,.string p.v,.bool p.g]
inductive T
 |leaf
 |node (b:Nat) (l:T) (p:Pr) (rk:Int) (r:T)
def T.ptr:T→Option Addr
 | .leaf=>none
 | .node b _ _ _ _=>some ⟨b,0,none⟩
theorem ptr_leaf:T.leaf.ptr=none:=rfl
theorem ptr_node{b:Nat}{l r:T}{p:Pr}{rk:Int}:(T.node b l p rk r).ptr=some ⟨b,0,none⟩:=rfl
def T.list:T→List Pr
 | .leaf=>[]
 | .node _ l p _ r=>l.list++p::r.list
def nodeC(l:T)(p:Pr)(rk:Int)(r:T):List Value:=[.string p.k,.string p.v,.bool p.g,.int .u64 rk,.pointer l.ptr,.pointer r.ptr]
def treeL:T→List HProp
 | .leaf=>[]
 | .node b l p rk r=>[pts b (.cells (nodeC l p rk r).toArray 129),fun h=>SatL (treeL l) h,fun h=>SatL (treeL r) h]
def treeP(t:T):HProp:=fun h=>SatL (treeL t) h
theorem tree_open{b:Nat}{l r:T}{p:Pr}{rk:Int}{L:List HProp}{h:Frag}(s:SatL (treeP (.node b l p rk r)::L) h):SatL (pts b (.cells (nodeC l p rk r).toArray 129)::treeP l::treeP r::L) h:=s.flat
theorem tree_shut{b:Nat}{l r:T}{p:Pr}{rk:Int}{L:List HProp}{h:Frag}(s:SatL (pts b (.cells (nodeC l p rk r).toArray 129)::treeP l::treeP r::L) h):SatL (treeP (.node b l p rk r)::L) h:=SatL.unflat (M:=treeL (.node b l p rk r)) s
def mayB(p:Pr):Bool:=decide (1≤p.k.size)&&decide (p.k.size≤512)&&decide (p.v.size≤262144)&&(!p.g||p.v.toList==[])
theorem check_spec(p:Pr):FSpec Tryz.prog 47 [.agg (pairV p).toArray] [] Unit (fun _=>True) (fun _=>.int .i64 (if mayB p then 0 else 2)) (fun _=>[]):=by
 obtain⟨k,v,g⟩:=p
 refine spec_intro [] _ Tryz.func47 rfl Tryz.ntmps47 (by rfl) (fun w0 R=>?_)
 repeat'(first|(refine gY ?_;intros)|(refine hY ?_ ?_<;>intro hgd)|(refine jY ?_ ?_<;>intro _)|fail)
 all_goals(refine rt_Y (y:=()) (hrs:=Tryz.results47) (hv:=?_) (hφ:=?_))
 all_goals first|exact trivial|skip
 all_goals(simp only[retOf,Value.int.injEq,true_and,nil_toList]at *;simp_all [mayB];try omega)
theorem rank_spec(m:Nat)(a b c:Value)(s:Int):FSpec Tryz.prog 182 [.pointer (some ⟨m,0,none⟩)] [pts m (.cells [a,b,c,.int .u64 s].toArray 127)] (Int×Int) (fun _=>True) (fun y=>.int .u64 y.1)
  (fun y=>[pts m (.cells [a,b,c,.int .u64 y.2].toArray 127)]):=by
 refine spec_intro [] _ Tryz.func182 rfl Tryz.ntmps182 (by rfl) (fun w0 R=>?_)
 repeat'(first|(refine gY ?_;intros)|(refine hY ?_ ?_<;>intro hgd)|(refine jY ?_ ?_<;>intro _)|fail)
 (refine rt_Y (y:=(_,_)) (hrs:=Tryz.results182) (hv:=by exact rfl) (hφ:=?_))
 trivial
theorem lift_left(bx:Nat)(p:Pr)(rk:Int)(ty tr:T):FSpec Tryz.prog 183 [.pointer (some ⟨bx,0,none⟩),.pointer ty.ptr] [pts bx (.cells (nodeC ty p rk tr).toArray 129),treeP ty,treeP tr]
  T (fun t=>t.list=ty.list++p::tr.list) (fun t=>.pointer t.ptr) (fun t=>[treeP t]):=by
 cases ty with
 |leaf=>
  dsimp only[nodeC,ptr_leaf,ptr_node]
  refine spec_intro [] _ Tryz.func183 rfl Tryz.ntmps183 (by rfl) (fun w0 R=>?_)
  repeat'(first|(refine gY ?_;intros)|(refine hY ?_ ?_<;>intro hgd)|(refine jY ?_ ?_<;>intro _)|fail)
  refine cont_map (fun _ h=>tree_shut (b:=bx) (l:=.leaf) (p:=p) (rk:=rk) (r:=tr) (Take.out3 takeD h)) ?_
  (refine rt_Y (y:=.node bx .leaf p rk tr) (hrs:=Tryz.results183) (hv:=?_) (hφ:=?_))
  ·rfl
  ·rfl
 |node by_ yl yp yrk yr=>
  refine spec_intro [] _ Tryz.func183 rfl Tryz.ntmps183 (by rfl) (fun w0 R=>?_)
  refine ok_map (fun _ h=>h.swap|>tree_open) ?_
  dsimp only[nodeC,ptr_leaf,ptr_node]
  repeat'(first|(refine gY ?_;intros)|(refine hY ?_ ?_<;>intro hgd)|(refine jY ?_ ?_<;>intro _)|fail)
  ·refine cont_map (fun _ h=>tree_shut (b:=bx) (l:=yr) (p:=p) (rk:=rk) (r:=tr) (Take.out3 takeD h)) ?_
   refine cont_map (fun _ h=>tree_shut (b:=by_) (l:=yl) (p:=yp) (rk:=yrk) (r:=.node bx yr p rk tr) (Take.out3 takeD h)) ?_
   (refine rt_Y (y:=.node by_ yl yp yrk (.node bx yr p rk tr)) (hrs:=Tryz.results183) (hv:=?_) (hφ:=?_))
   ·rfl
   ·simp[T.list]
  ·refine cont_map (fun _ h=>tree_shut (b:=by_) (l:=yl) (p:=yp) (rk:=yrk) (r:=yr) (Take.out3 takeD h)) ?_
   refine cont_map (fun _ h=>tree_shut (b:=bx) (l:=.node by_ yl yp yrk yr) (p:=p) (rk:=rk) (r:=tr) (Take.out3 takeD h)) ?_
   (refine rt_Y (y:=.node bx (.node by_ yl yp yrk yr) p rk tr) (hrs:=Tryz.results183) (hv:=?_) (hφ:=?_))
   ·rfl
   ·rfl
theorem lift_right(bx:Nat)(p:Pr)(rk:Int)(tl ty:T):FSpec Tryz.prog 183 [.pointer (some ⟨bx,0,none⟩),.pointer ty.ptr] [pts bx (.cells (nodeC tl p rk ty).toArray 129),treeP tl,treeP ty]
  T (fun t=>t.list=tl.list++p::ty.list) (fun t=>.pointer t.ptr) (fun t=>[treeP t]):=by
 cases ty with
 |leaf=>
  dsimp only[nodeC,ptr_leaf,ptr_node]
  refine spec_intro [] _ Tryz.func183 rfl Tryz.ntmps183 (by rfl) (fun w0 R=>?_)
  repeat'(first|(refine gY ?_;intros)|(refine hY ?_ ?_<;>intro hgd)|(refine jY ?_ ?_<;>intro _)|fail)
  refine cont_map (fun _ h=>tree_shut (b:=bx) (l:=tl) (p:=p) (rk:=rk) (r:=.leaf) (Take.out3 takeD h)) ?_
  (refine rt_Y (y:=.node bx tl p rk .leaf) (hrs:=Tryz.results183) (hv:=?_) (hφ:=?_))
  ·rfl
  ·rfl
 |node by_ yl yp yrk yr=>
  cases tl with
  |leaf=>
   refine spec_intro [] _ Tryz.func183 rfl Tryz.ntmps183 (by rfl) (fun w0 R=>?_)
   refine ok_map (fun _ h=>tree_open (b:=by_) (Take.out1 takeD h)) ?_
   dsimp only[nodeC,ptr_leaf,ptr_node]
   repeat'(first|(refine gY ?_;intros)|(refine hY ?_ ?_<;>intro hgd)|(refine jY ?_ ?_<;>intro _)|fail)
   ·refine cont_map (fun _ h=>tree_shut (b:=bx) (l:=.leaf) (p:=p) (rk:=rk) (r:=yl) (Take.out3 takeD h)) ?_
    refine cont_map (fun _ h=>tree_shut (b:=by_) (l:=.node bx .leaf p rk yl) (p:=yp) (rk:=yrk) (r:=yr) (Take.out3 takeD h)) ?_
    (refine rt_Y (y:=.node by_ (.node bx .leaf p rk yl) yp yrk yr) (hrs:=Tryz.results183) (hv:=?_) (hφ:=?_))
    ·rfl
    ·simp[T.list]
   ·refine cont_map (fun _ h=>tree_shut (b:=by_) (l:=yl) (p:=yp) (rk:=yrk) (r:=yr) (Take.out3 takeD h)) ?_
    refine cont_map (fun _ h=>tree_shut (b:=bx) (l:=.leaf) (p:=p) (rk:=rk) (r:=.node by_ yl yp yrk yr) (Take.out3 takeD h)) ?_
    (refine rt_Y (y:=.node bx .leaf p rk (.node by_ yl yp yrk yr)) (hrs:=Tryz.results183) (hv:=?_) (hφ:=?_))
    ·rfl
    ·rfl
  |node bl ll lp lrk lr=>
   refine spec_intro [] _ Tryz.func183 rfl Tryz.ntmps183 (by rfl) (fun w0 R=>?_)
   refine ok_map (fun _ h=>tree_open (b:=by_) (Take.out1 takeD h)) ?_
   refine ok_map (fun _ h=>tree_open (b:=bl) (Take.out1 takeD h)) ?_
   refine ok_learn (φ:=by_≠bl) (fun _ h=>pts_ne (Take.out2 takeD h)) (fun hne=>?_)
   dsimp only[nodeC,ptr_leaf,ptr_node]
   repeat'(first|(refine gY ?_;intros)|(refine hY ?_ ?_<;>intro hgd)|(refine jY ?_ ?_<;>intro _)|fail)
   ·refine cont_map (fun _ h=>tree_shut (b:=bl) (l:=ll) (p:=lp) (rk:=lrk) (r:=lr) (Take.out3 takeD h)) ?_
    refine cont_map (fun _ h=>tree_shut (b:=bx) (l:=.node bl ll lp lrk lr) (p:=p) (rk:=rk) (r:=yl) (Take.out3 takeD h)) ?_
    refine cont_map (fun _ h=>tree_shut (b:=by_) (l:=.node bx (.node bl ll lp lrk lr) p rk yl) (p:=yp) (rk:=yrk) (r:=yr) (Take.out3 takeD h)) ?_
    (refine rt_Y (y:=.node by_ (.node bx (.node bl ll lp lrk lr) p rk yl) yp yrk yr) (hrs:=Tryz.results183) (hv:=?_) (hφ:=?_))
    ·rfl
    ·simp[T.list]
   ·refine cont_map (fun _ h=>tree_shut (b:=by_) (l:=yl) (p:=yp) (rk:=yrk) (r:=yr) (Take.out3 takeD h)) ?_
    refine cont_map (fun _ h=>tree_shut (b:=bl) (l:=ll) (p:=lp) (rk:=lrk) (r:=lr) (Take.out3 takeD h)) ?_
    refine cont_map (fun _ h=>tree_shut (b:=bx) (l:=.node bl ll lp lrk lr) (p:=p) (rk:=rk) (r:=.node by_ yl yp yrk yr) (Take.out3 takeD h)) ?_
    (refine rt_Y (y:=.node bx (.node bl ll lp lrk lr) p rk (.node by_ yl yp yrk yr)) (hrs:=Tryz.results183) (hv:=?_) (hφ:=?_))
    ·rfl
    ·rfl
def memC(rt:Value)(n sz s:Int):List Value:=[rt,.int .i64 n,.int .i64 sz,.int .u64 s]
def newN(p:Pr)(l:List Pr)(n:Int):Int:=if has p.k l then n else n+1
def newSz(p:Pr)(l:List Pr)(sz:Int):Int:=sz+(sizeL (ins p l):Int)-(sizeL l:Int)
theorem mmPut_spec(m:Nat)(rt:Value)(p:Pr)(hp:p.k.size+p.v.size≤1099511627776):∀ (t:T) (n sz s:Int),Sorted t.list→(∀ q∈t.list,q.v.size≤1099511627776)→0≤n→n≤1152921504606846976→0≤sz→sz≤1152921504606846976→
  FSpec Tryz.prog 156 [.pointer (some ⟨m,0,none⟩),.pointer t.ptr,.agg (pairV p).toArray] [pts m (.cells (memC rt n sz s).toArray 127),treeP t] (T×Int) (fun y=>y.1.list=ins p t.list)
   (fun y=>.tuple #[.pointer y.1.ptr,.bool (!has p.k t.list)]) (fun y=>[pts m (.cells (memC rt (newN p t.list n) (newSz p t.list sz) y.2).toArray 127),treeP y.1]):=by
 intro t
 induction t with
 |leaf=>
  intro n sz s hs hv h1 h2 h3 h4
  refine spec_intro [] _ Tryz.func156 rfl Tryz.ntmps156 (by rfl) (fun w0 R=>?_)
  try dsimp only[nodeC,memC,pairV,ptr_leaf,ptr_node]
  repeat'(first|(refine gY ?_;intros)|(refine hY ?_ ?_<;>intro hgd)|(refine jY ?_ ?_<;>intro _)|fail)
  refine dr_Y (H:=pts m _) [2] ?_
  try dsimp only[nodeC,memC,pairV,ptr_leaf,ptr_node]
  repeat'(first|(refine gY ?_;intros)|(refine hY ?_ ?_<;>intro hgd)|(refine jY ?_ ?_<;>intro _)|fail)
  refine clN_Y (rank_spec m _ _ _ _) ?_
  rintro⟨rk,s'⟩ _
  try dsimp only[nodeC,memC,pairV,ptr_leaf,ptr_node]
  repeat'(first|(refine gY ?_;intros)|(refine hY ?_ ?_<;>intro hgd)|(refine jY ?_ ?_<;>intro _)|fail)
  refine cont_map (fun _ h=>satL_emp (A:=treeP .leaf) trivial h) ?_
  refine cont_map (fun _ h=>tree_shut (l:=.leaf) (p:=p) (rk:=rk) (r:=.leaf) (Take.out3 (B:=treeP .leaf) (C:=treeP .leaf) takeD h)) ?_
  have e1:newN p T.leaf.list n=n+1:=rfl
  have e2:newSz p T.leaf.list sz=sz+(↑p.k.size+ ↑p.v.size):=by simp[newSz,T.list,ins,sizeL]
  rw[e1,e2]
  (refine rt_Y (y:=(.node _ .leaf p rk .leaf,s')) (hrs:=Tryz.results156) (hv:=?_) (hφ:=?_))
  ·rfl
  ·rfl
 |node b l q rk r ihl ihr=>
  intro n sz s hs hv h1 h2 h3 h4
  obtain⟨hsl,hsr,hll,hlr⟩:=sorted_mid hs
  have hvl:∀ q∈l.list,q.v.size≤1099511627776:=fun x hx=>hv x (by simp[T.list,hx])
  have hvr:∀ q∈r.list,q.v.size≤1099511627776:=fun x hx=>hv x (by simp[T.list,hx])
  have hvq:q.v.size≤1099511627776:=hv q (by simp[T.list])
  rcases ltS_tri p.k q.k with h|h|h
  ·have t1:Op.bytesLess p.k.toList q.k.toList=true:=h
   have e1:ins p (T.node b l q rk r).list=ins p l.list++q::r.list:=ins_left h _ _
   have e2:has p.k (T.node b l q rk r).list=has p.k l.list:=by
    have h3:(p.k.toList==q.k.toList)=false:=by
     cases e:(p.k.toList==q.k.toList)with
     |false=>rfl
     |true=>exact absurd (eqS_iff.1 e) (ltS_ne h)
    have h4:has p.k r.list=false:=has_none fun x hx e=>by
     have:=ltS_trans h (hlr x hx);rw[e,ltS_irrefl]at this;cases this
    simp only[T.list,has_append,has_cons,h3,h4,Bool.or_false]
   have e3:newN p (T.node b l q rk r).list n=newN p l.list n:=by simp only[newN,e2]
   have e4:newSz p (T.node b l q rk r).list sz=newSz p l.list sz:=by
    simp only[newSz,e1];simp only[T.list,sizeL_append];omega
   refine spec_intro [] _ Tryz.func156 rfl Tryz.ntmps156 (by rfl) (fun w0 R=>?_)
   refine ok_map (fun _ h=>tree_open (b:=b) (Take.out1 takeD h)) ?_
   try dsimp only[nodeC,memC,pairV,ptr_leaf,ptr_node]
   repeat'(first|(refine gY ?_;intros)|(refine hY ?_ ?_<;>intro hgd)|(refine jY ?_ ?_<;>intro _)|fail)
   refine cl_Y (ihl n sz s hsl hvl h1 h2 h3 h4) ?_
   rintro⟨t',s'⟩ hy
   try dsimp only[nodeC,memC,pairV,ptr_leaf,ptr_node]
   repeat'(first|(refine gY ?_;intros)|(refine hY ?_ ?_<;>intro hgd)|(refine jY ?_ ?_<;>intro _)|fail)
   ·refine cl_Y (lift_left b q rk t' r) ?_
    intro t2 ht2
    try dsimp only[nodeC,memC,pairV,ptr_leaf,ptr_node]
    repeat'(first|(refine gY ?_;intros)|(refine hY ?_ ?_<;>intro hgd)|(refine jY ?_ ?_<;>intro _)|fail)
    rename_i hf
    rw[e1,e2,e3,e4]
    (refine rt_Y (y:=(t2,s')) (hrs:=Tryz.results156) (hv:=?_) (hφ:=?_))
    ·show Value.tuple #[_,_]=_
     rw[hf]
    ·show t2.list=_
     rw[ht2];exact congrArg (· ++q::r.list) hy
   ·rename_i hf
    rw[e1,e2,e3,e4]
    refine cont_map (fun _ h=>tree_shut (b:=b) (l:=t') (p:=q) (rk:=rk) (r:=r) (Take.out3 takeD h)) ?_
    (refine rt_Y (y:=(.node b t' q rk r,s')) (hrs:=Tryz.results156) (hv:=?_) (hφ:=?_))
    ·show Value.tuple #[_,_]=_
     rw[hf];rfl
    ·exact congrArg (· ++q::r.list) hy
  ·have t1:Op.bytesLess p.k.toList q.k.toList=false:=by rw[h];exact ltS_irrefl _
   have t3:(!(Op.bytesLess p.k.toList q.k.toList||p.k.toList==q.k.toList))=false:=by rw[t1,h];simp
   have e1:ins p (T.node b l q rk r).list=l.list++p::r.list:=ins_here h _ _ hll
   have e2:has p.k (T.node b l q rk r).list=true:=by
    simp only[T.list,has_append,has_cons,h,beq_self_eq_true,Bool.true_or,Bool.or_true]
   have e3:newN p (T.node b l q rk r).list n=n:=by simp only[newN,e2,if_true]
   have e4:newSz p (T.node b l q rk r).list sz=sz+((p.v.size:Int)-(q.v.size:Int)):=by
    have hk:p.k.size=q.k.size:=by rw[h]
    simp only[newSz,e1];simp only[T.list,sizeL_append,sizeL_cons];omega
   refine spec_intro [] _ Tryz.func156 rfl Tryz.ntmps156 (by rfl) (fun w0 R=>?_)
   refine ok_map (fun _ h=>tree_open (b:=b) (Take.out1 takeD h)) ?_
   try dsimp only[nodeC,memC,pairV,ptr_leaf,ptr_node]
   repeat'(first|(refine gY ?_;intros)|(refine hY ?_ ?_<;>intro hgd)|(refine jY ?_ ?_<;>intro _)|fail)
   rw[e1,e2,e3,e4]
   refine cont_map (fun _ h=>tree_shut (b:=b) (l:=l) (p:=p) (rk:=rk) (r:=r) (Take.out3 takeD h)) ?_
   (refine rt_Y (y:=(.node b l p rk r,s)) (hrs:=Tryz.results156) (hv:=?_) (hφ:=?_))
   ·rfl
   ·rfl
  ·have t1:Op.bytesLess p.k.toList q.k.toList=false:=ltS_asymm h
   have k3:(p.k.toList==q.k.toList)=false:=by
    cases e:(p.k.toList==q.k.toList)with
    |false=>rfl
    |true=>exact absurd (eqS_iff.1 e) (Ne.symm (ltS_ne h))
   have t3:(!(Op.bytesLess p.k.toList q.k.toList||p.k.toList==q.k.toList))=true:=by rw[t1,k3];rfl
   have e1:ins p (T.node b l q rk r).list=l.list++q::ins p r.list:=ins_right h _ _ hll
   have e2:has p.k (T.node b l q rk r).list=has p.k r.list:=by
    have h4:has p.k l.list=false:=has_none fun x hx e=>by
     have:=ltS_trans (hll x hx) h;rw[e,ltS_irrefl]at this;cases this
    simp only[T.list,has_append,has_cons,k3,h4,Bool.false_or]
   have e3:newN p (T.node b l q rk r).list n=newN p r.list n:=by simp only[newN,e2]
   have e4:newSz p (T.node b l q rk r).list sz=newSz p r.list sz:=by
    simp only[newSz,e1];simp only[T.list,sizeL_append,sizeL_cons];omega
   refine spec_intro [] _ Tryz.func156 rfl Tryz.ntmps156 (by rfl) (fun w0 R=>?_)
   refine ok_map (fun _ h=>tree_open (b:=b) (Take.out1 takeD h)) ?_
   try dsimp only[nodeC,memC,pairV,ptr_leaf,ptr_node]
   repeat'(first|(refine gY ?_;intros)|(refine hY ?_ ?_<;>intro hgd)|(refine jY ?_ ?_<;>intro _)|fail)
   refine cl_Y (ihr n sz s hsr hvr h1 h2 h3 h4) ?_
   rintro⟨t',s'⟩ hy
   try dsimp only[nodeC,memC,pairV,ptr_leaf,ptr_node]
   repeat'(first|(refine gY ?_;intros)|(refine hY ?_ ?_<;>intro hgd)|(refine jY ?_ ?_<;>intro _)|fail)
   ·refine cl_Y (lift_right b q rk l t') ?_
    intro t2 ht2
    try dsimp only[nodeC,memC,pairV,ptr_leaf,ptr_node]
    repeat'(first|(refine gY ?_;intros)|(refine hY ?_ ?_<;>intro hgd)|(refine jY ?_ ?_<;>intro _)|fail)
    rename_i hf
    rw[e1,e2,e3,e4]
    (refine rt_Y (y:=(t2,s')) (hrs:=Tryz.results156) (hv:=?_) (hφ:=?_))
    ·show Value.tuple #[_,_]=_
     rw[hf]
    ·show t2.list=_
     rw[ht2];exact congrArg (fun z=>l.list++q::z) hy
   ·rename_i hf
    rw[e1,e2,e3,e4]
    refine cont_map (fun _ h=>tree_shut (b:=b) (l:=l) (p:=q) (rk:=rk) (r:=t') (Take.out3 takeD h)) ?_
    (refine rt_Y (y:=(.node b l q rk t',s')) (hrs:=Tryz.results156) (hv:=?_) (hφ:=?_))
    ·show Value.tuple #[_,_]=_
     rw[hf];rfl
    ·exact congrArg (fun z=>l.list++q::z) hy
structure MemOk(l:List Pr):Prop where
 sorted:Sorted l
 may:∀ q∈l,mayB q=true
 len:l.length≤1000000
 size:sizeL l≤1000000000000
theorem mayB_sizes{p:Pr}(h:mayB p=true):1≤p.k.size∧p.k.size≤512∧p.v.size≤262144:=by
 simp only[mayB,Bool.and_eq_true,decide_eq_true_eq]at h
 exact⟨h.1.1.1,h.1.1.2,h.1.2⟩
def memL(m:Nat)(t:T)(s:Int):List HProp:=[pts m (.cells (memC (.pointer t.ptr) t.list.length (sizeL t.list) s).toArray 127),treeP t]
theorem mmNew_spec:FSpec Tryz.prog 39 [] [] Nat (fun _=>True) (fun m=>.pointer (some ⟨m,0,none⟩)) (fun m=>memL m .leaf 0):=by
 refine spec_intro [] _ Tryz.func39 rfl Tryz.ntmps39 (by rfl) (fun w0 R=>?_)
 try dsimp only[nodeC,memC,pairV,ptr_leaf,ptr_node]
 repeat'(first|(refine gY ?_;intros)|(refine hY ?_ ?_<;>intro hgd)|(refine jY ?_ ?_<;>intro _)|fail)
 refine cont_map (fun _ h=>satL_emp (A:=treeP .leaf) trivial h) ?_
 rename_i b
 (refine rt_Y (y:=b) (hrs:=Tryz.results39) (hv:=?_) (hφ:=?_))
 ·rfl
 ·trivial
theorem Put_yes(m:Nat)(t:T)(s:Int)(p:Pr)(hm:mayB p=true)(ht:MemOk t.list):FSpec Tryz.prog 110 [.pointer (some ⟨m,0,none⟩),.agg (pairV p).toArray] (memL m t s) (T×Int) (fun y=>y.1.list=ins p t.list) (fun _=>.int .i64 0) (fun y=>memL m y.1 y.2):=by
 have hc:=check_spec p
 simp only[hm,if_true]at hc
 have hb:=mayB_sizes hm
 have hlen:=ht.len
 have hsize:=ht.size
 refine spec_intro [] _ Tryz.func110 rfl Tryz.ntmps110 (by rfl) (fun w0 R=>?_)
 try dsimp only[nodeC,memC,pairV,ptr_leaf,ptr_node]
 repeat'(first|(refine gY ?_;intros)|(refine hY ?_ ?_<;>intro hgd)|(refine jY ?_ ?_<;>intro _)|fail)
 refine cl_Y (hc) ?_
 intro _ _
 try dsimp only[nodeC,memC,pairV,ptr_leaf,ptr_node]
 repeat'(first|(refine gY ?_;intros)|(refine hY ?_ ?_<;>intro hgd)|(refine jY ?_ ?_<;>intro _)|fail)
 refine cl_Y (mmPut_spec m (.pointer t.ptr) p (by omega) t t.list.length (sizeL t.list) s ht.sorted (fun q hq=>by have:=mayB_sizes (ht.may q hq);omega) (by omega) (by omega) (by omega) (by omega)) ?_
 rintro⟨t',s'⟩ hy
 try dsimp only[nodeC,memC,pairV,ptr_leaf,ptr_node]
 repeat'(first|(refine gY ?_;intros)|(refine hY ?_ ?_<;>intro hgd)|(refine jY ?_ ?_<;>intro _)|fail)
 have hy':t'.list=ins p t.list:=hy
 have e1:newN p t.list t.list.length=(t'.list.length:Int):=by
  rw[hy',ins_length p t.list ht.sorted];unfold newN;split<;>simp
 have e2:newSz p t.list (sizeL t.list)=(sizeL t'.list:Int):=by
  rw[hy'];unfold newSz;omega
 rw[e1,e2]
 (refine rt_Y (y:=(t',s')) (hrs:=Tryz.results110) (hv:=?_) (hφ:=?_))
 ·rfl
 ·exact hy'
theorem Len_spec(m:Nat)(t:T)(s:Int):FSpec Tryz.prog 52 [.pointer (some ⟨m,0,none⟩)] (memL m t s) Unit (fun _=>True) (fun _=>.int .i64 t.list.length) (fun _=>memL m t s):=by
 refine spec_intro [] _ Tryz.func52 rfl Tryz.ntmps52 (by rfl) (fun w0 R=>?_)
 try dsimp only[nodeC,memC,pairV,ptr_leaf,ptr_node]
 repeat'(first|(refine gY ?_;intros)|(refine hY ?_ ?_<;>intro hgd)|(refine jY ?_ ?_<;>intro _)|fail)
 (refine rt_Y (y:=()) (hrs:=Tryz.results52) (hv:=?_) (hφ:=?_))
 ·rfl
 ·trivial
def fil(fr:ByteArray)(l:List Pr):List Pr:=l.filter fun q=> !ltS q.k fr
theorem fil_all{fr:ByteArray}{l:List Pr}(h:∀ q∈l,ltS q.k fr=true):fil fr l=[]:=by
 unfold fil
 rw[List.filter_eq_nil_iff]
 intro q hq
 simp[h q hq]
theorem from_spec(fr:ByteArray)(yv:Value)(St Sp:List Pr→HProp)(go:List Pr→Bool)(all:List Pr)
  (hy:∀ pre p,pre++[p] <+:all→VSpec Tryz.prog yv [.agg (pairV p).toArray] [St pre] Unit (fun _=>True) (fun _=>.bool (go (pre++[p]))) (fun _=>[if go (pre++[p])then St (pre++[p])else Sp (pre++[p])])):
  ∀ (t:T) (pre:List Pr),pre++fil fr t.list <+:all→Sorted t.list→
   FSpec Tryz.prog 160 [.pointer t.ptr,.string fr,yv] [treeP t,St pre] Unit (fun _=>True) (fun _=>.bool (eat go pre (fil fr t.list)).2)
    (fun _=>[treeP t,if(eat go pre (fil fr t.list)).2 then St (eat go pre (fil fr t.list)).1 else Sp (eat go pre (fil fr t.list)).1]):=by
 intro t
 induction t with
 |leaf=>
  intro pre hp hs
  refine spec_intro [] _ Tryz.func160 rfl Tryz.ntmps160 (by rfl) (fun w0 R=>?_)
  try dsimp only[nodeC,memC,pairV,ptr_leaf,ptr_node]
  repeat'(first|(refine gY ?_;intros)|(refine hY ?_ ?_<;>intro hgd)|(refine jY ?_ ?_<;>intro _)|fail)
  (refine rt_Y (y:=()) (hrs:=Tryz.results160) (hv:=?_) (hφ:=?_))
  ·rfl
  ·trivial
 |node b l q rk r ihl ihr=>
  intro pre hp hs
  obtain⟨hsl,hsr,hll,hlr⟩:=sorted_mid hs
  cases hq:ltS q.k fr with
  |true=>
   have t1:Op.bytesLess q.k.toList fr.toList=true:=hq
   have e1:fil fr (T.node b l q rk r).list=fil fr r.list:=by
    have h1:fil fr l.list=[]:=fil_all fun x hx=>ltS_trans (hll x hx) hq
    simp only[fil]at h1
    simp only[fil,T.list,List.filter_append,h1,List.filter_cons,hq,Bool.not_true,Bool.false_eq_true,if_false,List.nil_append]
   rw[e1]at hp ⊢
   refine spec_intro [] _ Tryz.func160 rfl Tryz.ntmps160 (by rfl) (fun w0 R=>?_)
   refine ok_map (fun _ h=>tree_open (b:=b) (Take.out1 takeD h)) ?_
   try dsimp only[nodeC,memC,pairV,ptr_leaf,ptr_node]
   repeat'(first|(refine gY ?_;intros)|(refine hY ?_ ?_<;>intro hgd)|(refine jY ?_ ?_<;>intro _)|fail)
   refine cl_Y (ihr pre hp hsr) ?_
   intro _ _
   try dsimp only[nodeC,memC,pairV,ptr_leaf,ptr_node]
   repeat'(first|(refine gY ?_;intros)|(refine hY ?_ ?_<;>intro hgd)|(refine jY ?_ ?_<;>intro _)|fail)
   refine cont_map (fun _ h=>tree_shut (b:=b) (l:=l) (p:=q) (rk:=rk) (r:=r) (Take.out3 takeD h)) ?_
   (refine rt_Y (y:=()) (hrs:=Tryz.results160) (hv:=?_) (hφ:=?_))
   ·rfl
   ·trivial
  |false=>
   have t1:Op.bytesLess q.k.toList fr.toList=false:=hq
   have e1:fil fr (T.node b l q rk r).list=fil fr l.list++([q]++fil fr r.list):=by
    simp only[fil,T.list,List.filter_append,List.filter_cons,hq,Bool.not_false,if_true,List.cons_append,List.nil_append]
   rw[e1]at hp ⊢
   have hpl:pre++fil fr l.list <+:all:=List.IsPrefix.trans ⟨_,List.append_assoc _ _ _⟩ hp
   have hpq:(pre++fil fr l.list)++[q] <+:all:=List.IsPrefix.trans ⟨fil fr r.list,by simp⟩ hp
   have hpr:((pre++fil fr l.list)++[q])++fil fr r.list <+:all:=by simpa using hp
   rw[eat_append,eat_append]
   cases hl:(eat go pre (fil fr l.list)).2 with
   |false=>
    simp only[hl,Bool.false_eq_true,if_false]
    have hc:=ihl pre hpl hsl
    rw[hl]at hc
    refine spec_intro [] _ Tryz.func160 rfl Tryz.ntmps160 (by rfl) (fun w0 R=>?_)
    refine ok_map (fun _ h=>tree_open (b:=b) (Take.out1 takeD h)) ?_
    try dsimp only[nodeC,memC,pairV,ptr_leaf,ptr_node]
    repeat'(first|(refine gY ?_;intros)|(refine hY ?_ ?_<;>intro hgd)|(refine jY ?_ ?_<;>intro _)|fail)
    refine cl_Y (hc) ?_
    intro _ _
    try dsimp only[nodeC,memC,pairV,ptr_leaf,ptr_node]
    repeat'(first|(refine gY ?_;intros)|(refine hY ?_ ?_<;>intro hgd)|(refine jY ?_ ?_<;>intro _)|fail)
    refine cont_map (fun _ h=>tree_shut (b:=b) (l:=l) (p:=q) (rk:=rk) (r:=r) (Take.out3 takeD h)) ?_
    (refine rt_Y (y:=()) (hrs:=Tryz.results160) (hv:=?_) (hφ:=?_))
    ·rfl
    ·trivial
   |true=>
    have hc:=ihl pre hpl hsl
    have hy1:=hy _ _ hpq
    simp only[hl,if_true,eat_true hl]at hc ⊢
    cases hg:go (pre++fil fr l.list++[q])with
    |false=>
     have e2:eat go (pre++fil fr l.list) [q]=(pre++fil fr l.list++[q],false):=by rw[eat_cons,hg];rfl
     simp only[e2,Bool.false_eq_true,if_false]
     simp only[hg,Bool.false_eq_true,if_false]at hy1
     refine spec_intro [] _ Tryz.func160 rfl Tryz.ntmps160 (by rfl) (fun w0 R=>?_)
     refine ok_map (fun _ h=>tree_open (b:=b) (Take.out1 takeD h)) ?_
     try dsimp only[nodeC,memC,pairV,ptr_leaf,ptr_node]
     repeat'(first|(refine gY ?_;intros)|(refine hY ?_ ?_<;>intro hgd)|(refine jY ?_ ?_<;>intro _)|fail)
     refine cl_Y (hc) ?_
     intro _ _
     try dsimp only[nodeC,memC,pairV,ptr_leaf,ptr_node]
     repeat'(first|(refine gY ?_;intros)|(refine hY ?_ ?_<;>intro hgd)|(refine jY ?_ ?_<;>intro _)|fail)
     refine clV_Y (hy1) ?_
     intro _ _
     try dsimp only[nodeC,memC,pairV,ptr_leaf,ptr_node]
     repeat'(first|(refine gY ?_;intros)|(refine hY ?_ ?_<;>intro hgd)|(refine jY ?_ ?_<;>intro _)|fail)
     refine cont_map (fun _ h=>tree_shut (b:=b) (l:=l) (p:=q) (rk:=rk) (r:=r) (Take.out3 takeD h)) ?_
     (refine rt_Y (y:=()) (hrs:=Tryz.results160) (hv:=?_) (hφ:=?_))
     ·rfl
     ·trivial
    |true=>
     have e2:eat go (pre++fil fr l.list) [q]=(pre++fil fr l.list++[q],true):=by rw[eat_cons,hg];rfl
     simp only[e2,if_true]
     simp only[hg,if_true]at hy1
     have hr:=ihr _ hpr hsr
     refine spec_intro [] _ Tryz.func160 rfl Tryz.ntmps160 (by rfl) (fun w0 R=>?_)
     refine ok_map (fun _ h=>tree_open (b:=b) (Take.out1 takeD h)) ?_
     try dsimp only[nodeC,memC,pairV,ptr_leaf,ptr_node]
     repeat'(first|(refine gY ?_;intros)|(refine hY ?_ ?_<;>intro hgd)|(refine jY ?_ ?_<;>intro _)|fail)
     refine cl_Y (hc) ?_
     intro _ _
     try dsimp only[nodeC,memC,pairV,ptr_leaf,ptr_node]
     repeat'(first|(refine gY ?_;intros)|(refine hY ?_ ?_<;>intro hgd)|(refine jY ?_ ?_<;>intro _)|fail)
     refine clV_Y (hy1) ?_
     intro _ _
     try dsimp only[nodeC,memC,pairV,ptr_leaf,ptr_node]
     repeat'(first|(refine gY ?_;intros)|(refine hY ?_ ?_<;>intro hgd)|(refine jY ?_ ?_<;>intro _)|fail)
     refine cl_Y (hr) ?_
     intro _ _
     try dsimp only[nodeC,memC,pairV,ptr_leaf,ptr_node]
     repeat'(first|(refine gY ?_;intros)|(refine hY ?_ ?_<;>intro hgd)|(refine jY ?_ ?_<;>intro _)|fail)
     refine cont_map (fun _ h=>tree_shut (b:=b) (l:=l) (p:=q) (rk:=rk) (r:=r) (Take.out3 takeD h)) ?_
     (refine rt_Y (y:=()) (hrs:=Tryz.results160) (hv:=?_) (hφ:=?_))
     ·rfl
     ·trivial
end Go.Proofs.YtgbmjoenbocfcaaGreat
