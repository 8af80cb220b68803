/- Texts merged: MemE MemF. -/
import Derived.Test.YtgbmjoenbocfcaaGreatG13
set_option linter.unusedSimpArgs false
set_option linter.unusedVariables false
set_option maxRecDepth 100000
namespace Go.Proofs.YtgbmjoenbocfcaaGreat
open Go Go.Fx Go.Proofs Go.Pl
theorem each_spec(m:Nat)(fr:ByteArray):FSpec Tryz.prog 112 [.pointer (some ⟨m,0,none⟩),.string fr] [] (Nat×Nat) (fun _=>True)
  (fun y=>.func (.func 159) #[] [.pointer (some ⟨y.1,0,none⟩),.pointer (some ⟨y.2,0,none⟩)].toArray)
  (fun y=>[pts y.1 (.cells [.pointer (some ⟨m,0,none⟩)].toArray 75),pts y.2 (.cells [.string fr].toArray 9)]):=by
 refine spec_intro [] _ Tryz.func112 rfl Tryz.ntmps112 (by rfl) (fun w0 R=>?_)
 try dsimp only[nodeC,memC,pairV,ptr_leaf,ptr_node]
 repeat'(first|(refine gY ?_;intros)|(refine hY ?_ ?_<;>intro hgd)|(refine jY ?_ ?_<;>intro _)|fail)
 rename_i b1 b2
 (refine rt_Y (y:=(b1,b2)) (hrs:=Tryz.results112) (hv:=?_) (hφ:=?_))
 ·rfl
 ·trivial
theorem each1_spec(m b1 b2:Nat)(fr:ByteArray)(t:T)(s:Int)(ht:Sorted t.list):
  IterSpec Tryz.prog 159 [.pointer (some ⟨b1,0,none⟩),.pointer (some ⟨b2,0,none⟩)]
   [pts b1 (.cells [.pointer (some ⟨m,0,none⟩)].toArray 75),pts b2 (.cells [.string fr].toArray 9),pts m (.cells (memC (.pointer t.ptr) t.list.length (sizeL t.list) s).toArray 127),treeP t] (fil fr t.list) (fun p=>[.agg (pairV p).toArray]):=by
 intro yv St Sp go hy
 have hf:=from_spec fr yv St Sp go (fil fr t.list) hy t [] (by simp) ht
 refine spec_intro [] _ Tryz.func159 rfl Tryz.ntmps159 (by rfl) (fun w0 R=>?_)
 try dsimp only[nodeC,memC,pairV,ptr_leaf,ptr_node]
 repeat'(first|(refine gY ?_;intros)|(refine hY ?_ ?_<;>intro hgd)|(refine jY ?_ ?_<;>intro _)|fail)
 refine cl_Y (hf) ?_
 intro _ _
 try dsimp only[nodeC,memC,pairV,ptr_leaf,ptr_node]
 repeat'(first|(refine gY ?_;intros)|(refine hY ?_ ?_<;>intro hgd)|(refine jY ?_ ?_<;>intro _)|fail)
 (refine rt_Y (y:=()) (hrs:=Tryz.results159) (hv:=?_) (hφ:=?_))
 ·rfl
 ·trivial
def inB(to:ByteArray)(p:Pr):Bool:=to.toList==[]||ltS p.k to
def goS(to:ByteArray)(most:Int)(q:List Pr):Bool:=
 (match q.getLast? with|some p=>inB to p|none=>true)&& !decide (((q.filter (inB to)).length:Int)=most)
def scanL(fr to:ByteArray)(most:Int)(l:List Pr):List Pr:=((eat (goS to most) [] (fil fr l)).1).filter (inB to)
def slL(b:Nat)(xs:List (List Value)):HProp:=exP fun v:{v:Value // v.oneCell'=true}=>[pts b (.cells [v.1].toArray 22),row 65 3 v.1 xs]
theorem slL_in{b:Nat}{v:Value}{xs:List (List Value)}(hv:v.oneCell'=true){L:List HProp}{h:Frag}(s:SatL (pts b (.cells [v].toArray 22)::row 65 3 v xs::L) h):SatL (slL b xs::L) h:=
 ex_in (M:=fun v:{v:Value // v.oneCell'=true}=>[pts b (.cells [v.1].toArray 22),row 65 3 v.1 xs]) ⟨v,hv⟩ rfl s
theorem row_nil{e n:Nat}{L:List HProp}{h:Frag}(s:SatL L h):SatL (row e n (.slice none 0 0) []::L) h:=satL_emp (A:=row e n (.slice none 0 0) []) ⟨fun _ hx=>by simp at hx,.inl ⟨rfl,rfl⟩⟩ s
theorem goS_snoc{to:ByteArray}{most:Int}{pre:List Pr}{p:Pr}:goS to most (pre++[p])=(inB to p&& !decide ((((pre++[p]).filter (inB to)).length:Int)=most)):=by
 unfold goS
 rw[List.getLast?_concat]
set_option maxHeartbeats 1000000 in
theorem mmScan_spec(m:Nat)(t:T)(s:Int)(fr to:ByteArray)(most:Int)(h:1≤most)(ht:MemOk t.list):
  FSpec Tryz.prog 56 [.pointer (some ⟨m,0,none⟩),.string fr,.string to,.int .i64 most] (memL m t s) Value (fun _=>True) (fun v=>v) (fun v=>row 65 3 v ((scanL fr to most t.list).map pairV)::memL m t s):=by
 have h1:decide (most<1)=false:=by simp;omega
 have hlen:=ht.len
 refine spec_intro [] _ Tryz.func56 rfl Tryz.ntmps56 (by rfl) (fun w0 R=>?_)
 try dsimp only[nodeC,memC,pairV,ptr_leaf,ptr_node]
 repeat'(first|(refine gY ?_;intros)|(refine hY ?_ ?_<;>intro hgd)|(refine jY ?_ ?_<;>intro _)|fail)
 rename_i b6 b7 b8
 refine cl_Y (each_spec m fr) ?_
 intro bb _
 try dsimp only[nodeC,memC,pairV,ptr_leaf,ptr_node]
 repeat'(first|(refine gY ?_;intros)|(refine hY ?_ ?_<;>intro hgd)|(refine jY ?_ ?_<;>intro _)|fail)
 refine ok_map (fun _ h=>slL_in (v:=.slice none 0 0) (b:=b8) rfl (Take.out2 takeD (row_nil (e:=65) (n:=3) h))) ?_
 refine ok_range (goS to most) (fun q=>[slL b8 ((q.filter (inB to)).map pairV),pts b7 (.cells [.int .i64 most].toArray 3),pts b6 (.cells [.string to].toArray 9)]) (fun _=>.exit 0) (each1_spec m bb.1 bb.2 fr t s ht.sorted) rfl rfl takeD (R':=R) entD (fun _=>rfl) (by rfl) ?_ ?_ ?_
 ·intro l pre p hp w1 R1 LP0 LP1 QB QE hB hN hE hR
  have hgo:=goS_snoc (to:=to) (most:=most) (pre:=pre) (p:=p)
  dsimp only
  have hsub:pre.length<t.list.length:=by
   have h2:=hp.length_le
   have h3:(fil fr t.list).length≤t.list.length:=List.length_filter_le _ _
   simp only[List.length_append,List.length_cons,List.length_nil]at h2
   omega
  have hflen:(pre.filter (inB to)).length≤pre.length:=List.length_filter_le _ _
  have e0:(!(to.toList==({data:= #[]}:ByteArray).toList))= !(to.toList==[]):=by rw[nil_toList]
  cases ho:(!(to.toList==({data:= #[]}:ByteArray).toList))with
  |true=>
   cases hw:(!(Op.bytesLess p.k.toList to.toList))with
   |true=>
    have hin:inB to p=false:=by
     unfold inB ltS
     rw[e0]at ho
     simp only[Bool.not_eq_true']at ho hw
     rw[ho,hw];rfl
    have hf:(pre++[p]).filter (inB to)=pre.filter (inB to):=by simp[List.filter_append,hin]
    rw[hin,Bool.false_and]at hgo
    rw[hf]at hN hE hR
    try dsimp only[nodeC,memC,pairV,ptr_leaf,ptr_node]
    repeat'(first|(refine gY ?_;intros)|(refine hY ?_ ?_<;>intro hgd)|(refine jY ?_ ?_<;>intro _)|fail)
    (refine hB takeD ?_)
    (refine ok_ex selD ?_)
    rintro⟨v,hv⟩
    dsimp only
    try dsimp only[nodeC,memC,pairV,ptr_leaf,ptr_node]
    repeat'(first|(refine gY ?_;intros)|(refine hY ?_ ?_<;>intro hgd)|(refine jY ?_ ?_<;>intro _)|fail)
    refine cont_map (fun _ h=>slL_in (b:=b8) (by assumption) (Take.out2 takeD h)) ?_
    (refine hE hgo rfl takeD entD)
   |false=>
    have hin:inB to p=true:=by
     unfold inB ltS
     simp only[Bool.not_eq_false']at hw
     rw[hw,Bool.or_true]
    have hf:((pre++[p]).filter (inB to)).map pairV=(pre.filter (inB to)).map pairV++[pairV p]:=by simp[List.filter_append,hin]
    have hl:(((pre++[p]).filter (inB to)).length:Int)=(((pre.filter (inB to)).map pairV++[[Value.string p.k,Value.string p.v,Value.bool p.g]]).length:Int):=by rw[← List.length_map (f:=pairV),hf];rfl
    rw[hin,hl,Bool.true_and]at hgo
    rw[hf]at hN hE hR
    cases hn:decide ((((pre.filter (inB to)).map pairV++[[Value.string p.k,Value.string p.v,Value.bool p.g]]).length:Int)=most)with
    |true=>
     rw[hn]at hgo
     try dsimp only[nodeC,memC,pairV,ptr_leaf,ptr_node]
     repeat'(first|(refine gY ?_;intros)|(refine hY ?_ ?_<;>intro hgd)|(refine jY ?_ ?_<;>intro _)|fail)
     (refine hB takeD ?_)
     (refine ok_ex selD ?_)
     rintro⟨v,hv⟩
     dsimp only
     try dsimp only[nodeC,memC,pairV,ptr_leaf,ptr_node]
     repeat'(first|(refine gY ?_;intros)|(refine hY ?_ ?_<;>intro hgd)|(refine jY ?_ ?_<;>intro _)|fail)
     refine cont_map (fun _ h=>slL_in (b:=b8) (by assumption) (Take.out2 takeD h)) ?_
     (refine hE hgo rfl takeD entD)
    |false=>
     rw[hn]at hgo
     try dsimp only[nodeC,memC,pairV,ptr_leaf,ptr_node]
     repeat'(first|(refine gY ?_;intros)|(refine hY ?_ ?_<;>intro hgd)|(refine jY ?_ ?_<;>intro _)|fail)
     (refine hB takeD ?_)
     (refine ok_ex selD ?_)
     rintro⟨v,hv⟩
     dsimp only
     try dsimp only[nodeC,memC,pairV,ptr_leaf,ptr_node]
     repeat'(first|(refine gY ?_;intros)|(refine hY ?_ ?_<;>intro hgd)|(refine jY ?_ ?_<;>intro _)|fail)
     refine cont_map (fun _ h=>slL_in (b:=b8) (by assumption) (Take.out2 takeD h)) ?_
     (refine hN hgo takeD entD)
  |false=>
   have hin:inB to p=true:=by
    unfold inB
    rw[e0]at ho
    simp only[Bool.not_eq_false']at ho
    rw[ho,Bool.true_or]
   have hf:((pre++[p]).filter (inB to)).map pairV=(pre.filter (inB to)).map pairV++[pairV p]:=by simp[List.filter_append,hin]
   have hl:(((pre++[p]).filter (inB to)).length:Int)=(((pre.filter (inB to)).map pairV++[[Value.string p.k,Value.string p.v,Value.bool p.g]]).length:Int):=by rw[← List.length_map (f:=pairV),hf];rfl
   rw[hin,hl,Bool.true_and]at hgo
   rw[hf]at hN hE hR
   cases hn:decide ((((pre.filter (inB to)).map pairV++[[Value.string p.k,Value.string p.v,Value.bool p.g]]).length:Int)=most)with
   |true=>
    rw[hn]at hgo
    try dsimp only[nodeC,memC,pairV,ptr_leaf,ptr_node]
    repeat'(first|(refine gY ?_;intros)|(refine hY ?_ ?_<;>intro hgd)|(refine jY ?_ ?_<;>intro _)|fail)
    (refine hB takeD ?_)
    (refine ok_ex selD ?_)
    rintro⟨v,hv⟩
    dsimp only
    try dsimp only[nodeC,memC,pairV,ptr_leaf,ptr_node]
    repeat'(first|(refine gY ?_;intros)|(refine hY ?_ ?_<;>intro hgd)|(refine jY ?_ ?_<;>intro _)|fail)
    refine cont_map (fun _ h=>slL_in (b:=b8) (by assumption) (Take.out2 takeD h)) ?_
    (refine hE hgo rfl takeD entD)
   |false=>
    rw[hn]at hgo
    try dsimp only[nodeC,memC,pairV,ptr_leaf,ptr_node]
    repeat'(first|(refine gY ?_;intros)|(refine hY ?_ ?_<;>intro hgd)|(refine jY ?_ ?_<;>intro _)|fail)
    (refine hB takeD ?_)
    (refine ok_ex selD ?_)
    rintro⟨v,hv⟩
    dsimp only
    try dsimp only[nodeC,memC,pairV,ptr_leaf,ptr_node]
    repeat'(first|(refine gY ?_;intros)|(refine hY ?_ ?_<;>intro hgd)|(refine jY ?_ ?_<;>intro _)|fail)
    refine cont_map (fun _ h=>slL_in (b:=b8) (by assumption) (Take.out2 takeD h)) ?_
    (refine hN hgo takeD entD)
 ·intro dk hb
  have e1:scanL fr to most t.list=(fil fr t.list).filter (inB to):=by unfold scanL;rw[eat_true hb];rfl
  (refine cont_ex selD ?_)
  rintro⟨v,hv⟩
  dsimp only
  try dsimp only[nodeC,memC,pairV,ptr_leaf,ptr_node]
  repeat'(first|(refine gY ?_;intros)|(refine hY ?_ ?_<;>intro hgd)|(refine jY ?_ ?_<;>intro _)|fail)
  rw[e1]
  refine rtM_Y (y:=v) (hrs:=Tryz.results56) (hv:=?_) (hφ:=?_)
  ·rfl
  ·trivial
 ·intro dk q hq
  have e1:scanL fr to most t.list=q.filter (inB to):=by unfold scanL;rw[hq]
  (refine ok_ex selD ?_)
  rintro⟨v,hv⟩
  dsimp only
  try dsimp only[nodeC,memC,pairV,ptr_leaf,ptr_node]
  repeat'(first|(refine gY ?_;intros)|(refine hY ?_ ?_<;>intro hgd)|(refine jY ?_ ?_<;>intro _)|fail)
  rw[e1]
  refine rtM_Y (y:=v) (hrs:=Tryz.results56) (hv:=?_) (hφ:=?_)
  ·rfl
  ·trivial
inductive Sub:T→T→Prop
 |refl {t:T}:Sub t t
 |left {x:T} {b:Nat} {l:T} {p:Pr} {rk:Int} {r:T} (h:Sub x l):Sub x (.node b l p rk r)
 |right {x:T} {b:Nat} {l:T} {p:Pr} {rk:Int} {r:T} (h:Sub x r):Sub x (.node b l p rk r)
theorem Sub.trans{x y z:T}(h:Sub x y)(k:Sub y z):Sub x z:=by
 induction k with
 |refl=>exact h
 |left _ ih=>exact .left ih
 |right _ ih=>exact .right ih
theorem treeP_split{b:Nat}{l:T}{p:Pr}{rk:Int}{r:T}{h:Frag}(s:treeP (.node b l p rk r) h):SatL [pts b (.cells (nodeC l p rk r).toArray 129),treeP l,treeP r] h:=s
theorem rd_sub{x t:T}(h:Sub x t):∀ {b:Nat} {l:T} {p:Pr} {rk:Int} {r:T},x= .node b l p rk r→Rd (treeP t) b (.cells (nodeC l p rk r).toArray 129):=by
 induction h with
 |refl=>
  rintro b l p rk r rfl h s
  exact(RdIn.here (Rd.pts _ _)).satL (treeP_split s)
 |left _ ih=>
  intro b l p rk r e h s
  exact(RdIn.there (RdIn.here (ih e))).satL (treeP_split s)
 |right _ ih=>
  intro b l p rk r e h s
  exact(RdIn.there (RdIn.there (RdIn.here (ih e)))).satL (treeP_split s)
def T.size:T→Nat
 | .leaf=>0
 | .node _ l _ _ r=>l.size+r.size+1
def getV:Option Pr→Value
 |some p=>.tuple [.agg (pairV p).toArray,.bool true].toArray
 |none=>.tuple [.agg [.string ByteArray.empty,.string ByteArray.empty,.bool false].toArray,.bool false].toArray
theorem look_left{key:ByteArray}{l r:List Pr}{q:Pr}(h:ltS key q.k=true)(hr:∀ x∈r,ltS q.k x.k=true):Pl.look key (l++q::r)=Pl.look key l:=by
 have h1:(q::r).find? (fun q=>key.toList==q.k.toList)=none:=by
  rw[List.find?_eq_none]
  intro x hx e
  have e':=eqS_iff.1 e
  rcases List.mem_cons.1 hx with rfl|hx
  ·exact ltS_ne h e'
  ·have:=ltS_trans h (hr x hx)
   exact ltS_ne this e'
 unfold Pl.look
 rw[List.find?_append,h1,Option.or_none]
theorem look_right{key:ByteArray}{l r:List Pr}{q:Pr}(h:ltS q.k key=true)(hl:∀ x∈l,ltS x.k q.k=true):Pl.look key (l++q::r)=Pl.look key r:=by
 have h1:l.find? (fun q=>key.toList==q.k.toList)=none:=by
  rw[List.find?_eq_none]
  intro x hx e
  have e':=eqS_iff.1 e
  exact ltS_ne (ltS_trans (hl x hx) h) e'.symm
 have h2:(key.toList==q.k.toList)=false:=by
  cases e:(key.toList==q.k.toList)with
  |false=>rfl
  |true=>exact absurd (eqS_iff.1 e) (Ne.symm (ltS_ne h))
 unfold Pl.look
 rw[List.find?_append,h1,Option.none_or,List.find?_cons,h2]
theorem look_here{key:ByteArray}{l r:List Pr}{q:Pr}(h:key=q.k)(hl:∀ x∈l,ltS x.k q.k=true):Pl.look key (l++q::r)=some q:=by
 subst h
 have h1:l.find? (fun x=>q.k.toList==x.k.toList)=none:=by
  rw[List.find?_eq_none]
  intro x hx e
  have e':=eqS_iff.1 e
  exact ltS_ne (hl x hx) e'.symm
 unfold Pl.look
 rw[List.find?_append,h1,Option.none_or,List.find?_cons]
 simp
theorem Get_spec(m:Nat)(t:T)(s:Int)(key:ByteArray)(ht:Sorted t.list):FSpec Tryz.prog 34 [.pointer (some ⟨m,0,none⟩),.string key] (memL m t s) Unit (fun _=>True) (fun _=>getV (Pl.look key t.list)) (fun _=>memL m t s):=by
 refine spec_intro [] _ Tryz.func34 rfl Tryz.ntmps34 (by rfl) (fun w0 R=>?_)
 try dsimp only[nodeC,memC,pairV,ptr_leaf,ptr_node]
 repeat'(first|(refine gY ?_;intros)|(refine hY ?_ ?_<;>intro hgd)|(refine jY ?_ ?_<;>intro _)|fail)
 rename_i b4
 refine ok_loop' (γ:=T) (fun g ρ L=>Sub g t∧Pl.look key g.list=Pl.look key t.list∧Sorted g.list∧Knows ρ [(1,.string key),(4,.pointer (some ⟨b4,0,none⟩)),(6,.pointer g.ptr)]∧L=pts b4 (.cells [.string {data:= #[]},.string {data:= #[]},.bool false].toArray 65)::(memL m t s++R)) T.size t ⟨.refl,rfl,ht,⟨rfl,rfl,rfl,trivial⟩,rfl⟩ ?_
 rintro g ρ L ⟨hsub,hlook,hgs,hk,rfl⟩
 refine ok_regs hk ?_
 cases g with
 |leaf=>
  have e1:Pl.look key t.list=none:=by rw[← hlook];rfl
  rw[e1]
  try dsimp only[nodeC,memC,pairV,ptr_leaf,ptr_node]
  repeat'(first|(refine gY ?_;intros)|(refine hY ?_ ?_<;>intro hgd)|(refine jY ?_ ?_<;>intro _)|fail)
  (refine rt_Y (y:=()) (hrs:=Tryz.results34) (hv:=?_) (hφ:=?_))
  ·rfl
  ·trivial
 |node b l q rk r=>
  have hrd:=rd_sub hsub rfl
  obtain⟨hsl,hsr,hll,hlr⟩:=sorted_mid hgs
  rcases ltS_tri key q.k with h|h|h
  ·have t1:Op.bytesLess key.toList q.k.toList=true:=h
   try dsimp only[nodeC,memC,pairV,ptr_leaf,ptr_node]
   repeat'(first|(refine gY ?_;intros)|(refine hY ?_ ?_<;>intro hgd)|(refine jY ?_ ?_<;>intro _)|fail)
   refine cont_back l ⟨.trans (.left .refl) hsub,(look_left h hlr).symm.trans hlook,hsl,⟨rfl,rfl,rfl,trivial⟩,rfl⟩ (by simp only[T.size];omega)
  ·have t1:Op.bytesLess key.toList q.k.toList=false:=by rw[h];exact ltS_irrefl _
   have t3:(!(Op.bytesLess key.toList q.k.toList||key.toList==q.k.toList))=false:=by rw[t1,h];simp
   have e1:Pl.look key t.list=some q:=by rw[← hlook];exact look_here h hll
   rw[e1]
   try dsimp only[nodeC,memC,pairV,ptr_leaf,ptr_node]
   repeat'(first|(refine gY ?_;intros)|(refine hY ?_ ?_<;>intro hgd)|(refine jY ?_ ?_<;>intro _)|fail)
   (refine rt_Y (y:=()) (hrs:=Tryz.results34) (hv:=?_) (hφ:=?_))
   ·rfl
   ·trivial
  ·have t1:Op.bytesLess key.toList q.k.toList=false:=ltS_asymm h
   have k3:(key.toList==q.k.toList)=false:=by
    cases e:(key.toList==q.k.toList)with
    |false=>rfl
    |true=>exact absurd (eqS_iff.1 e) (Ne.symm (ltS_ne h))
   have t3:(!(Op.bytesLess key.toList q.k.toList||key.toList==q.k.toList))=true:=by rw[t1,k3];rfl
   try dsimp only[nodeC,memC,pairV,ptr_leaf,ptr_node]
   repeat'(first|(refine gY ?_;intros)|(refine hY ?_ ?_<;>intro hgd)|(refine jY ?_ ?_<;>intro _)|fail)
   refine cont_back r ⟨.trans (.right .refl) hsub,(look_right h hll).symm.trans hlook,hsr,⟨rfl,rfl,rfl,trivial⟩,rfl⟩ (by simp only[T.size];omega)
end Go.Proofs.YtgbmjoenbocfcaaGreat
