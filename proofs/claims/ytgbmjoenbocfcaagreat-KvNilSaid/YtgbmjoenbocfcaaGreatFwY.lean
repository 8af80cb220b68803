/- Texts merged: FwH FwI FwW FwM FwN FwO FwJ FwL FwP FwQ FwR FwS FwT FwU FwV FwK. -/
import Derived.Test.YtgbmjoenbocfcaaGreatFwX
import Derived.Deep.AppendSrc
import Derived.Laws.AppendOwn
import Derived.Great.BuildSlice
import Derived.Scope
import Derived.Laws.StructEq
import Derived.Maps.RangeRun
import Derived.MapKept
import Derived.Laws.IdiomStrings
import Derived.Laws.MakeOwn
import Derived.Laws.BytesString
import Derived.ProofKit
import Derived.SizedLaws
import Derived.Deep.Slices
import Derived.Lib.Builder
import Derived.Lib.UnsafeStr
import Derived.Laws.Externs
import Derived.Lib.AppendZeros
namespace Go.Fx
open Go
def good(n:Nat)(xs:List (List Value)):Prop:=∀ x∈xs,x.length=n∧oneCells x=true
theorem good.flatten_length{n:Nat}:∀ {xs:List (List Value)},good n xs→xs.flatten.length=xs.length*n
 | [],_=>by simp
 |x::xs,h=>by
  have h1:=(h x (List.mem_cons_self ..)).1
  have h2:=good.flatten_length (xs:=xs) fun y hy=>h y (List.mem_cons_of_mem _ hy)
  simp only[List.flatten_cons,List.length_append,List.length_cons,h1,h2,Nat.add_mul,Nat.one_mul]
  omega
theorem good.append{n:Nat}{xs ys:List (List Value)}(h:good n xs)(k:good n ys):good n (xs++ys):=fun x hx=>(List.mem_append.1 hx).elim (h x) (k x)
theorem good.one{n:Nat}{xs:List (List Value)}(h:good n xs):∀ u∈xs.flatten,u.oneCell'=true:=by
 intro u hu
 obtain⟨x,hx,hu⟩:=List.mem_flatten.1 hu
 exact List.all_eq_true.1 (h x hx).2 u hu
theorem good.get{n:Nat}:∀ {xs:List (List Value)},good n xs→∀ {i j:Nat} {x:List Value},xs[i]? =some x→j<n→xs.flatten[i*n+j]? =x[j]?
 | [],_,_,_,_,hx,_=>by simp at hx
 |y::xs,h,i,j,x,hx,hj=>by
  have h1:=(h y (List.mem_cons_self ..)).1
  cases i with
  |zero=>
   simp only[List.getElem?_cons_zero,Option.some.injEq]at hx
   subst hx
   simp only[List.flatten_cons,Nat.zero_mul,Nat.zero_add]
   rw[List.getElem?_append_left (by omega)]
  |succ i=>
   simp only[List.getElem?_cons_succ]at hx
   have h2:=good.get (xs:=xs) (fun z hz=>h z (List.mem_cons_of_mem _ hz)) hx hj
   simp only[List.flatten_cons]
   rw[List.getElem?_append_right (by rw[h1,Nat.add_mul];omega),h1]
   rw[← h2]
   congr 1
   rw[Nat.add_mul];omega
def row(e n:Nat)(v:Value)(xs:List (List Value)):HProp:=fun h=>
 good n xs∧((v= .slice none 0 0∧xs=[])∨∃ b cap rest,v= .slice (some ⟨b,0,none⟩) xs.length cap∧(xs.flatten++rest).length=cap*n∧h b=some (.cells (xs.flatten++rest).toArray e))
def view(n:Nat)(v:Value)(xs:List (List Value))(h:Frag):Prop:=
 good n xs∧∃ p cap,v= .slice p xs.length cap∧(xs=[]∨∃ b o,p=some ⟨b,o,none⟩)∧(p=none→xs=[])∧
  ∀ b o,p=some ⟨b,o,none⟩→xs≠[]→∃ cs T fr,h b=some (.cells cs T fr)∧∀ j u,xs.flatten[j]? =some u→cs[o+j]? =some u
theorem view.mono{n:Nat}{v:Value}{xs:List (List Value)}{h h':Frag}(k:view n v xs h)(l:h.le h'):view n v xs h':=by
 obtain⟨g,p,cap,h1,h2,h2',h3⟩:=k
 refine⟨g,p,cap,h1,h2,h2',fun b o hp hx=>?_⟩
 obtain⟨cs,T,fr,hb,hc⟩:=h3 b o hp hx
 exact⟨cs,T,fr,l _ _ hb,hc⟩
def Vw(H:HProp)(n:Nat)(v:Value)(xs:List (List Value)):Prop:=∀ h,H h→view n v xs h
theorem Vw.row{e n:Nat}{v:Value}{xs:List (List Value)}:Vw (row e n v xs) n v xs:=by
 rintro h ⟨g,(⟨rfl,rfl⟩|⟨b,cap,rest,rfl,hl,hb⟩)⟩
 ·exact⟨g,none,0,rfl,.inl rfl,fun _=>rfl,fun _ _ e=>by cases e⟩
 ·refine⟨g,_,cap,rfl,.inr ⟨b,0,rfl⟩,(fun e=>by cases e),fun b' o' hp hx=>?_⟩
  cases hp
  refine⟨_,_,_,hb,fun j u hj=>?_⟩
  rw[Nat.zero_add,List.getElem?_toArray,List.getElem?_append_left (List.getElem?_eq_some_iff.1 hj).1]
  exact hj
inductive VwIn:List HProp→Nat→Value→List (List Value)→Prop
 |here {H:HProp} {L:List HProp} {n:Nat} {v:Value} {xs:List (List Value)} (h:Vw H n v xs):VwIn (H::L) n v xs
 |there {H:HProp} {L:List HProp} {n:Nat} {v:Value} {xs:List (List Value)} (h:VwIn L n v xs):VwIn (H::L) n v xs
theorem VwIn.satL{L:List HProp}{n:Nat}{v:Value}{xs:List (List Value)}(r:VwIn L n v xs):∀ {h:Frag},SatL L h→view n v xs h:=by
 induction r with
 |here hr=>rintro h ⟨h1,_,_,l1,_,hA,_⟩;exact(hr _ hA).mono l1
 |there _ ih=>exact fun s=>ih s.tail
theorem VwIn.slice{L:List HProp}{n:Nat}{v:Value}{xs:List (List Value)}(r:VwIn L n v xs)(h:Frag)(s:SatL L h):∃ p cap,v= .slice p xs.length cap:=by
 obtain⟨_,p,cap,h1,_⟩:=r.satL s
 exact⟨p,cap,h1⟩
theorem VwIn.base{L:List HProp}{n:Nat}{p:Option Addr}{len cap:Nat}{xs:List (List Value)}(r:VwIn L n (.slice p len cap) xs)(hx:xs≠[])(h:Frag)(s:SatL L h):∃ b o,p=some ⟨b,o,none⟩:=by
 obtain⟨_,p',cap',h1,h2,_⟩:=r.satL s
 cases h1
 exact h2.resolve_left hx
theorem VwIn.good{L:List HProp}{n:Nat}{v:Value}{xs:List (List Value)}(r:VwIn L n v xs)(h:Frag)(s:SatL L h):good n xs:=(r.satL s).1
def slot(o n i j:Nat):Nat:=o+i*n+j
theorem slot_add{o n i j k:Nat}:slot o n i j+k=slot o n i (j+k):=by unfold slot;omega
variable{X:Cx}{ops:Array Oper}{nb:NB}{N:Act→World→Prop}{i:Nat}{os:List Oper}{Ls:List HProp}{ds:List Deferred}{ρ:Regs}{L:List HProp}{ty:TypeId}{d:Nat}
theorem Sl.get{P:Program}{t e n b:Nat}{zs:List Value}(I:Sl P t e n b zs):P.underlying t=some (.slice e)∧∃ k z,P.info? e=some k∧k.zero=some z∧k.size=n∧k.bytes=b∧z.cells.toList=zs:=by
 have h:=I.info
 unfold slInfo at h
 split at h
 ·rename_i e' hu
  split at h
  ·rename_i k hk
   cases hz:k.zero with
   |none=>simp[hz]at h
   |some z=>
    simp only[hz,Option.map_some,Option.some.injEq,Prod.mk.injEq]at h
    obtain⟨rfl,rfl,rfl,rfl⟩:=h
    exact⟨hu,k,z,hk,hz,rfl,rfl,rfl⟩
  ·cases h
 ·cases h
theorem src_of_view{P:Program}{w:World}{tx e' n:Nat}{u:Value}{ys:List (List Value)}(J:Ty P tx (.slice e'))(v:view n u ys (fun b=>w.heap[b]?)):Src P n tx u ys.length ys.flatten w:=by
 obtain⟨g,p,cap,rfl,h2,h2',h3⟩:=v
 cases p with
 |none=>
  have:ys=[]:=h2' rfl
  subst this
  exact Src.ofNil w J.und cap
 |some a=>
  refine Src.ofSlice w J.und a _ cap _ g.flatten_length ?_ g.one
  intro j u hj
  have hne:ys≠[]:=by rintro rfl;simp at hj
  obtain⟨b,o,hp⟩:=h2.resolve_left hne
  cases hp
  obtain⟨cs,T,fr,hb,hc⟩:=h3 b o rfl hne
  rw[add_plain]
  exact cell_of_heap hb (hc j u hj)
theorem e_append{t tx e e' n by_:Nat}{zs:List Value}[I:Sl X.P t e n by_ zs][J:Ty X.P tx (.slice e')]{s x:Operand}{v u:Value}{xs ys:List (List Value)}{R:List HProp}{d:Option Nat}
  (hz:Nat.beq zs.length n=true)(hs:ev ρ s=v)(hx:ev ρ x=u)(hsel:Sel L (row e n v xs) R)(hr:VwIn R n u ys)(hb:(xs.length+ys.length)*by_≤140737488355328)(hb':xs.length+ys.length≤4611686018427387904):
  Eff X d (.call {callee:=.builtin .append,args:= #[s,x],argTypes:= #[t,tx]}) ty ρ L Value (fun v'=>v'.oneCell'=true) (fun v'=>v') (fun v'=>row e n v' (xs++ys)::R):=by
 subst hs hx
 refine⟨(fun _ e=>by cases e),fun pos after gd=>⟨rfl,fun w hw=>?_⟩⟩
 obtain⟨ht,k,z,hk,hkz,rfl,rfl,hzc⟩:=I.get
 have hzs:z.cells.size=k.size:=by rw[← Nat.eq_of_beq_eq_true hz,← hzc];simp
 have hw1:=hw.sel hsel
 obtain⟨h1,h2,ha,l1,l2,⟨g,hrow⟩,hR⟩:=hw1.heap
 have hv:view k.size (ev ρ x) ys (fun b=>w.heap[b]?):=(hr.satL hR).mono l2
 have gy:=hv.1
 have hsrc:=src_of_view (P:=X.P) (w:=w) J hv
 have hop:execOp (ev ρ) ⟨d,.call {callee:=.builtin .append,args:= #[s,x],argTypes:= #[t,tx]},ty,pos,after,gd⟩=(do pure (.value (← Builtin.append_ #[t,tx] ty #[ev ρ s,ev ρ x]))):=by
  simp[execOp,resolve,invoke,builtin]
 have fin:∀ {v':Value} {w':World},v'.oneCell'=true→(Builtin.append_ #[t,tx] ty #[ev ρ s,ev ρ x]).run X.P w= .ok v' w'→Sats X.w0 w' (row e k.size v' (xs++ys)::R)→
   OpVal X.P ⟨d,.call {callee:=.builtin .append,args:= #[s,x],argTypes:= #[t,tx]},ty,pos,after,gd⟩ (ev ρ) w fun u' w'=>∃ y:Value,y.oneCell'=true∧u'=y∧Sats X.w0 w' (row e k.size y (xs++ys)::R):=by
  intro v' w' h1' hrun hs'
  unfold OpVal
  rw[hop]
  simp only[Sem.run_bind,hrun,Result.andThen_ok,Sem.run_pure]
  exact⟨v',h1',rfl,hs'⟩
 have grow:∀ (p:Option Addr) (cap:Nat),ev ρ s= .slice p xs.length cap→cap<xs.length+ys.length→(Builtin.firstCells k.size xs.length (.slice p xs.length cap)).run X.P w.drew= .ok xs.flatten.toArray w.drew→
   OpVal X.P ⟨d,.call {callee:=.builtin .append,args:= #[s,x],argTypes:= #[t,tx]},ty,pos,after,gd⟩ (ev ρ) w fun u' w'=>∃ y:Value,y.oneCell'=true∧u'=y∧Sats X.w0 w' (row e k.size y (xs++ys)::R):=by
  intro p cap hp hlt hold
  have hrun:=run_append_grow_src (P:=X.P) w t tx ty e k z ht hk hkz p xs.length cap xs.flatten hold (ev ρ x) ys.length ys.flatten hsrc hlt (by omega) (growslice_fits hlt hb)
  rw[← hp]at hrun
  refine fin rfl hrun ?_
  have hs0:Sats X.w0 w R:=hw1.map fun _ hh=>hh.tail
  have hs1:=hs0.drew.alloc (.cells ((xs.flatten++ys.flatten).toArray++Builtin.zeroCells z.cells (grownCap w (xs.length+ys.length) cap e-(xs.length+ys.length))) e)
  refine hs1.map fun _ hh=>hh.headMono fun _ hp'=>⟨g.append gy,.inr ⟨w.heap.size,_,(Builtin.zeroCells z.cells (grownCap w (xs.length+ys.length) cap e-(xs.length+ys.length))).toList,by rw[List.length_append],?_,?_⟩⟩
  ·have hge:=grownCap_ge w (xs.length+ys.length) cap e
   simp only[List.length_append,List.flatten_append,g.flatten_length,gy.flatten_length,Array.length_toList,size_zeroCells,hzs,← Nat.add_mul]
   congr 1
   omega
  ·have e1:((xs++ys).flatten++(Builtin.zeroCells z.cells (grownCap w (xs.length+ys.length) cap e-(xs.length+ys.length))).toList).toArray=(xs.flatten++ys.flatten).toArray++Builtin.zeroCells z.cells (grownCap w (xs.length+ys.length) cap e-(xs.length+ys.length)):=by
    apply Array.ext';simp
   rw[e1]
   exact hp'
 rcases hrow with⟨hnil,rfl⟩|⟨b,cap,rest,hv',hl,hbk⟩
 ·by_cases hy:ys=[]
  ·subst hy
   have hrun:(Builtin.append_ #[t,tx] ty #[ev ρ s,ev ρ x]).run X.P w= .ok (.slice none 0 0) w:=by
    rw[hnil]
    have h3:=hsrc.len w
    have h4:=hsrc.cells
    simp only[List.length_nil]at h3 h4
    simp[Builtin.append_,run_underlying ht,run_underlying J.und,sizeOf,typeInfo,hk,h3,h4]
   refine fin rfl hrun ?_
   refine hw1.map fun _ hh=>hh.headMono fun _ _=>⟨by simpa using g,.inl ⟨rfl,by simp⟩⟩
  ·refine grow none 0 hnil ?_ ?_
   ·have:=List.length_pos_iff.2 hy
    simp;omega
   ·exact run_firstCells_none w.drew _ _ _ _
 ·have hbw:w.heap[b]? =some (.cells (xs.flatten++rest).toArray e):=l1 _ _ hbk
  by_cases hroom:xs.length+ys.length≤cap
  ·have hle:xs.flatten.length+ys.flatten.length≤(xs.flatten++rest).length:=by
    rw[hl,g.flatten_length,gy.flatten_length,← Nat.add_mul]
    exact Nat.mul_le_mul_right _ hroom
   have hs2:Sats X.w0 w (pts b (.cells (xs.flatten++rest).toArray e)::R):=⟨hw1.os,hw1.tape,hw1.output,hw1.size,⟨h1,h2,ha,l1,l2,hbk,hR⟩⟩
   obtain⟨w',hst,hs'⟩:=storeCells_list (P:=X.P) ys.flatten 0 (xs.length*k.size) (xs.flatten++rest) R Sel.here hs2 gy.one (by rw[← g.flatten_length];omega)
   have hrun:(Builtin.append_ #[t,tx] ty #[ev ρ s,ev ρ x]).run X.P w= .ok (.slice (some ⟨b,0,none⟩) (xs.length+ys.length) cap) w':=by
    rw[hv']
    have h3:=hsrc.len w
    have h4:=hsrc.cells
    rcases hsrc.kind with⟨e',hk'⟩|hk'<;>
     simp[Builtin.append_,run_underlying ht,run_underlying hk',sizeOf,typeInfo,hk,h3,h4,hroom,Addr.add_lit,hst]
   refine fin rfl hrun ?_
   refine hs'.map fun _ hh=>hh.headMono fun _ hp'=>⟨g.append gy,.inr ⟨b,cap,rest.drop ys.flatten.length,by rw[List.length_append],?_,?_⟩⟩
   ·simp only[List.length_append]at hl hle ⊢
    simp only[List.flatten_append,List.length_append,List.length_drop]
    omega
   ·have e1:(xs++ys).flatten++rest.drop ys.flatten.length=(xs.flatten++rest).take (xs.length*k.size+0)++ys.flatten++(xs.flatten++rest).drop (xs.length*k.size+0+ys.flatten.length):=by
     rw[Nat.add_zero,← g.flatten_length,List.take_left,List.flatten_append,List.append_assoc,← List.drop_drop,List.drop_left,List.append_assoc]
    rw[e1]
    exact hp'
  ·refine grow _ cap hv' (by omega) ?_
   refine run_firstCells_some w.drew _ _ _ _ _ _ g.flatten_length ?_
   intro j u hj
   rw[add_plain]
   exact cell_of_heap (w:=w.drew) (cs:=(xs.flatten++rest).toArray) hbw (by rw[Nat.zero_add,List.getElem?_toArray,List.getElem?_append_left (List.getElem?_eq_some_iff.1 hj).1];exact hj)
theorem s_append [NoT nb]{t tx e e' n by_:Nat}{zs:List Value}[I:Sl X.P t e n by_ zs][J:Ty X.P tx (.slice e')]{s x:Operand}{v u:Value}{xs ys:List (List Value)}{R:List HProp}
  (hz:Nat.beq zs.length n=true)(hs:ev ρ s=v)(hx:ev ρ x=u)(hsel:Sel L (row e n v xs) R)(hr:VwIn R n u ys)(hb:(xs.length+ys.length)*by_≤140737488355328)(hb':xs.length+ys.length≤4611686018427387904)(hd:Nat.blt d X.nt=true)(hnb:nb.contains i=false)
  (h:∀ v',v'.oneCell'=true→OpsL X ops nb N (i+1) os (row e n v' (xs++ys)::R) ds (upd ρ d v') (row e n v' (xs++ys)::R)):Op1 X ops nb N i (some d) (.call {callee:=.builtin .append,args:= #[s,x],argTypes:= #[t,tx]}) ty os Ls ds ρ L:=
 op_eff (e_append hz hs hx hsel hr hb hb') (fun _ e=>by cases e;exact hd) hnb h
theorem a_len_view [NoT nb]{T e n:Nat}[I:Ty X.P T (.slice e)]{x:Operand}{v:Value}{xs:List (List Value)}(hx:ev ρ x=v)(hr:VwIn Ls n v xs)(hd:Nat.blt d X.nt=true)
  (h:OpsL X ops nb N (i+1) os Ls ds (upd ρ d (.int .i64 xs.length)) L):Op1 X ops nb N i (some d) (.call {callee:=.builtin .len,args:= #[x],argTypes:= #[T]}) ty os Ls ds ρ L:=by
 refine op_quiet (fun _ e=>by cases e) (fun _ _ _=>by simp[qk]) (fun x hx=>by cases hx;assumption) ?_ h
 intro pos after gd w hw
 have hs:=hw.resolve_left (by simp[qk])
 obtain⟨_,p,cap,rfl,_⟩:=hr.satL hs.heap
 simp[execOp,resolve,invoke,builtin,hx,Builtin.len_,I.run_underlying,goInt]
theorem e_buildSlice{t e n by_ len:Nat}{zs:List Value}[I:Sl X.P t e n by_ zs]{parts:Array (Nat×Operand)}{ps:List (Nat×Value)}{xs:List (List Value)}{d:Option Nat}
  (hp:EvP ρ parts.toList ps)(hf:Instr.fill (fun i=>some (i*n,n)) ((Array.range (len*n)).map (zs.toArray[· % zs.toArray.size]!)) ps=some xs.flatten.toArray)(hl:xs.length=len)(hg:good n xs)(hs:Nat.ble (len*n) 16777216=true)(h0:Nat.beq (len*n) 0=false):
  Eff X d (.buildSlice t len parts) ty ρ L Value (fun v'=>v'.oneCell'=true) (fun v'=>v') (fun v'=>row e n v' xs::L):=by
 have hp':=hp.map
 subst hp' hl
 refine⟨(fun _ e=>by cases e),fun pos after gd=>⟨rfl,fun w hw=>?_⟩⟩
 obtain⟨ht,k,z,hk,hkz,rfl,rfl,hzc⟩:=I.get
 have hzc':zs.toArray=z.cells:=by rw[← hzc]
 rw[hzc']at hf
 have e1:(parts.map fun(i,x)=>(i,ev ρ x)).toList=parts.toList.map (fun x=>(x.1,ev ρ x.2)):=by simp
 have hrun:=run_buildSlice (P:=X.P) w t e xs.length (parts.map fun(i,x)=>(i,ev ρ x)) _ k z ht hk hkz (by have:=Nat.le_of_ble_eq_true hs;omega) (by intro h;rw[h]at h0;cases h0) (by rw[e1];exact hf)
 unfold OpVal
 simp only[execOp,Sem.run_bind,hrun,Result.andThen_ok,Sem.run_pure]
 refine⟨_,rfl,rfl,(hw.alloc (.cells xs.flatten.toArray e)).map fun _ hh=>hh.headMono fun _ hp'=>⟨hg,.inr ⟨w.heap.size,xs.length,[],rfl,?_,by rw[List.append_nil];exact hp'⟩⟩⟩
 simp[hg.flatten_length]
def goodB(n:Nat)(xs:List (List Value)):Bool:=xs.all fun x=>Nat.beq x.length n&&oneCells x
theorem good_of{n:Nat}{xs:List (List Value)}(h:goodB n xs=true):good n xs:=fun x hx=>by
 have:=List.all_eq_true.1 h x hx
 simp only[Bool.and_eq_true]at this
 exact⟨Nat.eq_of_beq_eq_true this.1,this.2⟩
def seqB:Nat→List (Nat×Value)→Bool
 |_,[]=>true
 |k,x::l=>Nat.beq x.1 k&&seqB (k+1) l
theorem seqB_eq:∀ (ps:List (Nat×Value)) (k:Nat),seqB k ps=true→((ps.map (·.2)).zipIdx k).map (fun x=>(x.2,x.1))=ps
 | [],_,_=>rfl
 |(i,v)::l,k,h=>by
  simp only[seqB,Bool.and_eq_true]at h
  have:=Nat.eq_of_beq_eq_true h.1
  subst this
  simp only[List.map_cons,List.zipIdx_cons,seqB_eq l _ h.2]
theorem fill_seq{n len:Nat}{zs:Array Value}{ps:List (Nat×Value)}{xs:List (List Value)}(hxs:ps.map (fun x=>x.2.cells.toList)=xs)(hk:seqB 0 ps=true)(hl:xs.length=len)(hg:good n xs)(h0:len*n≠0):
  Instr.fill (fun i=>some (i*n,n)) ((Array.range (len*n)).map (zs[· % zs.size]!)) ps=some xs.flatten.toArray:=by
 subst hxs
 have hn:0<n:=Nat.pos_of_ne_zero fun e=>h0 (by rw[e,Nat.mul_zero])
 have h1:∀ v∈ps.map (·.2),v.cells.size=n:=by
  intro v hv
  obtain⟨x,hx,rfl⟩:=List.mem_map.1 hv
  have:=(hg x.2.cells.toList (List.mem_map.2 ⟨x,hx,rfl⟩)).1
  simpa using this
 have:=Great.fill_whole hn (ps.map (·.2)) ((Array.range (len*n)).map (zs[· % zs.size]!)) h1 (by simp at hl ⊢;rw[hl])
 rw[seqB_eq ps 0 hk]at this
 rw[this,List.flatMap_def,List.map_map]
 rfl
theorem s_buildSlice [NoT nb]{t e n by_ len:Nat}{zs:List Value}[I:Sl X.P t e n by_ zs]{parts:Array (Nat×Operand)}{ps:List (Nat×Value)}{xs:List (List Value)}
  (hp:EvP ρ parts.toList ps)(hxs:ps.map (fun x=>x.2.cells.toList)=xs)(hk:seqB 0 ps=true)(hl:Nat.beq xs.length len=true)(hg:goodB n xs=true)(hs:Nat.ble (len*n) 16777216=true)(h0:Nat.beq (len*n) 0=false)(hd:Nat.blt d X.nt=true)(hnb:nb.contains i=false)
  (h:∀ v',v'.oneCell'=true→OpsL X ops nb N (i+1) os (row e n v' xs::L) ds (upd ρ d v') (row e n v' xs::L)):Op1 X ops nb N i (some d) (.buildSlice t len parts) ty os Ls ds ρ L:=
 op_eff (e_buildSlice hp (fill_seq hxs hk (Nat.eq_of_beq_eq_true hl) (good_of hg) (by intro h;rw[h]at h0;cases h0)) (Nat.eq_of_beq_eq_true hl) (good_of hg) hs h0) (fun _ e=>by cases e;exact hd) hnb h
theorem a_indexAddr{t e n by_:Nat}{zs:List Value}[I:Sl X.P t e n by_ zs]{x y:Operand}{b o len cap m:Nat}{k:IntKind}{a:Int}(hx:ev ρ x= .slice (some ⟨b,o,none⟩) len cap)(hy:ev ρ y= .int k a)(ha:a=(m:Int))(hm:m<len)(hd:Nat.blt d X.nt=true)
  (h:OpsL X ops nb N (i+1) os Ls ds (upd ρ d (.pointer (some ⟨b,slot o n m 0,none⟩))) L):Op1 X ops nb N i (some d) (.indexAddr t x y) ty os Ls ds ρ L:=by
 subst ha
 (refine op_pure1 (fun _ e=>by cases e) (fun _ _ _=>by simp[qk]) hd ?_ h;intro pos after gd w)
 obtain⟨ht,kk,z,hk,hkz,rfl,rfl,hzc⟩:=I.get
 simp[execOp,hx,hy,Instr.indexAt,asIntOf,run_underlying ht,sizeOf,typeInfo,hk,slot,hm,Addr.add_lit]
theorem slot_cell{w:World}{n b o m j len cap:Nat}{x:List Value}{u:Value}{xs:List (List Value)}(hv:view n (.slice (some ⟨b,o,none⟩) len cap) xs (fun b=>w.heap[b]?))(hx:xs[m]? =some x)(hu:x[j]? =some u):w.cell? ⟨b,slot o n m j,none⟩=some u:=by
 obtain⟨g,p,cap',h1,h2,h2',h3⟩:=hv
 cases h1
 have hne:xs≠[]:=by rintro rfl;simp at hx
 obtain⟨cs,T,fr,hb,hc⟩:=h3 b o rfl hne
 have hmem:=List.mem_of_getElem? hx
 have hj:j<n:=by have:=(List.getElem?_eq_some_iff.1 hu).1;rw[(g x hmem).1]at this;exact this
 refine cell_of_heap hb ?_
 unfold slot
 rw[Nat.add_assoc]
 exact hc _ _ (by rw[g.get hx hj];exact hu)
theorem a_loadS [NoT nb]{t:TypeId}{dd:TypeDesc}[I:Ty X.P t dd](ha:isAggD dd=false){x:Operand}{b o n m j len cap:Nat}{xs:List (List Value)}{y:List Value}{v:Value}
  (hx:ev ρ x= .pointer (some ⟨b,slot o n m j,none⟩))(hr:VwIn Ls n (.slice (some ⟨b,o,none⟩) len cap) xs)(hy:xs[m]? =some y)(hc:y[j]? =some v)(hd:Nat.blt d X.nt=true)
  (h:OpsL X ops nb N (i+1) os Ls ds (upd ρ d v) L):Op1 X ops nb N i (some d) (.load t x) ty os Ls ds ρ L:=by
 refine op_quiet (fun _ e=>by cases e) (fun _ _ _=>by simp[qk]) (fun x hx=>by cases hx;assumption) ?_ h
 intro pos after gd w hw
 have hs:=hw.resolve_left (by simp[qk])
 have hcell:=slot_cell (hr.satL hs.heap) hy hc
 simp[execOp,hx,Instr.loadAt,Instr.sureAddr,run_loadVar1 (P:=X.P) (t:=t) ha hcell]
theorem a_loadSA [NoT nb]{t:TypeId}{k:Nat}[I:TyA X.P t][K:Sz X.P t k]{x:Operand}{b o n m j len cap:Nat}{xs:List (List Value)}{y vs:List Value}
  (hx:ev ρ x= .pointer (some ⟨b,slot o n m j,none⟩))(hr:VwIn Ls n (.slice (some ⟨b,o,none⟩) len cap) xs)(hy:xs[m]? =some y)(hk:Nat.ble (j+k) n=true)(hk0:Nat.blt 0 k=true)(hc:(y.drop j).take k=vs)(hd:Nat.blt d X.nt=true)
  (h:OpsL X ops nb N (i+1) os Ls ds (upd ρ d (.agg vs.toArray)) L):Op1 X ops nb N i (some d) (.load t x) ty os Ls ds ρ L:=by
 refine op_quiet (fun _ e=>by cases e) (fun _ _ _=>by simp[qk]) (fun x hx=>by cases hx;assumption) ?_ h
 intro pos after gd w hw
 have hs:=hw.resolve_left (by simp[qk])
 have hk':j+k≤n:=Nat.le_of_ble_eq_true hk
 obtain⟨g,p,cap',h1,h2,h2',h3⟩:=hr.satL hs.heap
 cases h1
 have hne:xs≠[]:=by rintro rfl;simp at hy
 obtain⟨cs,T,fr,hb,hcs⟩:=h3 b o rfl hne
 have hyn:=(g y (List.mem_of_getElem? hy)).1
 have hget:∀ q,q<k→cs[slot o n m j+q]? =y[j+q]? :=by
  intro q hq
  have hyq:y[j+q]? =some (y[j+q]'(by omega)):=List.getElem?_eq_getElem _
  rw[hyq]
  have e1:slot o n m j+q=o+(m*n+(j+q)):=by unfold slot;omega
  rw[e1]
  exact hcs _ _ (by rw[g.get hy (by omega)];exact hyq)
 have hle:slot o n m j+k≤cs.size:=by
  have hpos:0<k:=by simpa using hk0
  have:=hget (k-1) (by omega)
  have hyq:y[j+(k-1)]? =some (y[j+(k-1)]'(by omega)):=List.getElem?_eq_getElem _
  rw[hyq]at this
  have:=(Array.getElem?_eq_some_iff.1 this).1
  omega
 have hv:((cs.toList.drop (slot o n m j)).take k)=vs:=by
  rw[← hc]
  apply List.ext_getElem?
  intro q
  rcases Nat.lt_or_ge q k with hq|hq
  ·rw[List.getElem?_take_of_lt hq,List.getElem?_take_of_lt hq,List.getElem?_drop,List.getElem?_drop,← hget q hq]
   simp
  ·rw[List.getElem?_take_eq_none hq,List.getElem?_take_eq_none hq]
 have hb':w.heap[b]? =some (.cells cs.toList.toArray T fr):=by simpa using hb
 have:=run_loadVarA (P:=X.P) (t:=t) hb' (o:=slot o n m j) (n:=k) (by simpa using hle)
 rw[hv]at this
 simp[execOp,hx,Instr.loadAt,Instr.sureAddr,this]
def exP{α:Type}(M:α→List HProp):HProp:=fun h=>∃ a,SatL (M a) h
section
variable{Q:Exit→Act→World→Prop}
theorem ok_ex{c:Code}{α:Type}{M:α→List HProp}{L':List HProp}(s:Sel L (exP M) L')(h:∀ a,Ok X c ds ρ (M a++L') Q):Ok X c ds ρ L Q:=by
 refine foldOk fun a w ha hs=>?_
 obtain⟨h1,h2,ha',l1,l2,⟨x,hx⟩,hL⟩:=(hs.sel s).heap
 refine unfoldOk (h x) a w ha ⟨hs.os,hs.tape,hs.output,hs.size,?_⟩
 exact SatL.flat (M:=M x) ⟨h1,h2,ha',l1,l2,hx,hL⟩
theorem cont_ex{e:Exit}{α:Type}{M:α→List HProp}{L':List HProp}(s:Sel L (exP M) L')(h:∀ a,Cont X Q e ds ρ (M a++L')):Cont X Q e ds ρ L:=by
 refine foldCont fun a w ha hs=>?_
 obtain⟨h1,h2,ha',l1,l2,⟨x,hx⟩,hL⟩:=(hs.sel s).heap
 refine unfoldCont (h x) a w ha ⟨hs.os,hs.tape,hs.output,hs.size,?_⟩
 exact SatL.flat (M:=M x) ⟨h1,h2,ha',l1,l2,hx,hL⟩
end
theorem ex_in{α:Type}{M:α→List HProp}(a:α){pre:List HProp}(e:M a=pre){h:Frag}(s:SatL (pre++L) h):SatL (exP M::L) h:=by
 subst e
 exact(SatL.unflat s).headMono fun _ k=>⟨a,k⟩
section
variable{P:Program}{nt:Nat}{params:Array Tmp}{assign body:Code}{dk l:Nat}{args:List Value}{K K1:List HProp}
theorem yield_on(cv:List TypeId)(hlen:args.length=params.size)(hps:params.toList.all (Nat.blt · nt)=true)
  (h:∀ w0 R,Ok ⟨P,some l,nt,⟨w0,false⟩,cv⟩ assign [] (updMany ρ (params.toList.zip args)) (loopP nt ρ params assign body dk l .ready none::K++R) (BodyR ⟨P,some l,nt,⟨w0,false⟩,cv⟩ l nt ρ params assign body dk Unit (fun _=>True) (fun _=>none) (fun _=>K1) R)):
  VSpec P (.func (.yield l) #[] #[]) args [fun h=>SatL (loopP nt ρ params assign body dk l .ready none::K) h] Unit (fun _=>True) (fun _=>.bool true) (fun _=>[fun h=>SatL (loopP nt ρ params assign body dk l .ready none::K1) h]):=
 (yield_spec cv hlen hps h).conseq (fun _ _ s=>SatL.flat s) (fun y _=>⟨y,trivial,rfl,fun _ _ s=>SatL.unflat (M:=loopP nt ρ params assign body dk l .ready none::K1) s⟩)
theorem yield_off(cv:List TypeId)(jp:Code)(hlen:args.length=params.size)(hps:params.toList.all (Nat.blt · nt)=true)
  (h:∀ w0 R,Ok ⟨P,some l,nt,⟨w0,false⟩,cv⟩ assign [] (updMany ρ (params.toList.zip args)) (loopP nt ρ params assign body dk l .ready none::K++R) (BodyR ⟨P,some l,nt,⟨w0,false⟩,cv⟩ l nt ρ params assign body dk Unit (fun _=>True) (fun _=>some jp) (fun _=>K1) R)):
  VSpec P (.func (.yield l) #[] #[]) args [fun h=>SatL (loopP nt ρ params assign body dk l .ready none::K) h] Unit (fun _=>True) (fun _=>.bool false) (fun _=>[fun h=>SatL (loopP nt ρ params assign body dk l .done (some jp)::K1) h]):=
 (yield_spec cv hlen hps h).conseq (fun _ _ s=>SatL.flat s) (fun y _=>⟨y,trivial,rfl,fun _ _ s=>SatL.unflat (M:=loopP nt ρ params assign body dk l .done (some jp)::K1) s⟩)
end
def eat{α:Type}(go:List α→Bool):List α→List α→List α×Bool
 |pre,[]=>(pre,true)
 |pre,x::l=>if go (pre++[x])then eat go (pre++[x]) l else(pre++[x],false)
theorem eat_true{α:Type}{go:List α→Bool}:∀ {l pre:List α},(eat go pre l).2=true→(eat go pre l).1=pre++l
 | [],pre,_=>by simp[eat]
 |x::l,pre,h=>by
  unfold eat at h ⊢
  split at h
  ·rename_i hg
   rw[if_pos hg,eat_true h]
   simp
  ·cases h
theorem eat_cons{α:Type}{go:List α→Bool}{pre l:List α}{x:α}:eat go pre (x::l)=if go (pre++[x])then eat go (pre++[x]) l else(pre++[x],false):=rfl
theorem eat_append{α:Type}{go:List α→Bool}:∀ (l1 l2 pre:List α),eat go pre (l1++l2)=if(eat go pre l1).2 then eat go (pre++l1) l2 else eat go pre l1
 | [],l2,pre=>by simp[eat]
 |x::l1,l2,pre=>by
  cases hg:go (pre++[x])with
  |true=>
   have h1:=eat_append l1 l2 (pre++[x]) (go:=go)
   rw[List.append_assoc]at h1
   simp only[List.cons_append,eat_cons,hg,if_true,h1,List.nil_append]
  |false=>simp only[List.cons_append,eat_cons,hg,Bool.false_eq_true,if_false]
def IterSpec(P:Program)(f:FuncId)(cap:List Value)(A:List HProp){α:Type}(xs:List α)(enc:α→List Value):Prop:=
 ∀ (yv:Value) (St Sp:List α→HProp) (go:List α→Bool),
  (∀ pre p,pre++[p] <+:xs→VSpec P yv (enc p) [St pre] Unit (fun _=>True) (fun _=>.bool (go (pre++[p]))) (fun _=>[if go (pre++[p])then St (pre++[p])else Sp (pre++[p])]))→
  FSpec P f (yv::cap) (A++[St []]) Unit (fun _=>True) (fun _=>.tuple #[]) (fun _=>(if(eat go [] xs).2 then St (eat go [] xs).1 else Sp (eat go [] xs).1)::A)
theorem satL_rot:∀ (A:List HProp) {B:HProp} {L:List HProp} {h:Frag},SatL (B::A++L) h→SatL (A++[B]++L) h
 | [],_,_,_,s=>s
 |A::As,B,L,h,s=>by
  have s1:SatL (A::(B::As++L)) h:=SatL.swap s
  exact s1.consMono fun _ k=>satL_rot As k
theorem satL_comm:∀ (A:List HProp) {B L:List HProp} {h:Frag},SatL (A++(B++L)) h→SatL (B++(A++L)) h
 | [],_,_,_,s=>s
 |A::As,B,L,h,s=>by
  have s1:SatL (A::(B++(As++L))) h:=s.consMono fun _ k=>satL_comm As k
  have:∀ (B:List HProp) {M:List HProp} {h:Frag},SatL (A::(B++M)) h→SatL (B++A::M) h:=by
   intro B
   induction B with
   |nil=>exact fun k=>k
   |cons b B ih=>exact fun k=>(SatL.swap k).consMono fun _ k=>ih k
  exact this B s1
theorem ok_range{α:Type}{xs:List α}{enc:α→List Value}{f:FuncId}{cap:List Value}{A L1 R':List HProp}{g:Operand}{params:Array Tmp}{assign body:Code}{Q:Exit→Act→World→Prop}[F:FnI X.P f]
  (go:List α→Bool)(K:List α→List HProp)(jp:List α→Code)(it:IterSpec X.P f cap A xs enc)(hr:X.r=none)(hg:ev ρ g= .func (.func f) #[] cap.toArray)
  (ht:Take L A L1)(hK:∀ h,SatL L1 h→SatL (K []++R') h)(hlen:∀ p,(enc p).length=params.size)(hps:params.toList.all (Nat.blt · X.nt)=true)
  (round:∀ l pre p,pre++[p] <+:xs→∀ (w0:W0) (R:List HProp) (LP0 LP1:HProp) (QB QE:Exit→Act→World→Prop),
   (∀ {ds ρ' L L'},Take L [LP0] L'→Ok ⟨X.P,some l,X.nt,w0,X.cv⟩ body ds ρ' (LP1::L') QE→Cont ⟨X.P,some l,X.nt,w0,X.cv⟩ QB .normal ds ρ' L)→
   (∀ {ds ρ' L L'},go (pre++[p])=true→Take L [LP1] L'→(∀ h,SatL L' h→SatL (K (pre++[p])++R) h)→Cont ⟨X.P,some l,X.nt,w0,X.cv⟩ QE .normal ds ρ' L)→
   (∀ {ds ρ' L L' id},go (pre++[p])=false→jp (pre++[p])= .exit id→Take L [LP1] L'→(∀ h,SatL L' h→SatL (K (pre++[p])++R) h)→Cont ⟨X.P,some l,X.nt,w0,X.cv⟩ QE (.exit id) ds ρ' L)→
   (∀ {ds ρ' L L'},go (pre++[p])=false→jp (pre++[p])= .ret→Take L [LP1] L'→(∀ h,SatL L' h→SatL (K (pre++[p])++R) h)→Cont ⟨X.P,some l,X.nt,w0,X.cv⟩ QE .ret ds ρ' L)→
   Ok ⟨X.P,some l,X.nt,w0,X.cv⟩ assign [] (updMany ρ (params.toList.zip (enc p))) (LP0::K pre++R) QB)
  (done:∀ dk,(eat go [] xs).2=true→Cont X Q .normal (mark dk::ds) ρ (marked dk::K xs++(A++R')))
  (stop:∀ dk q,eat go [] xs=(q,false)→Ok X (jp q) (mark dk::ds) ρ (marked dk::K q++(A++R')) Q)(hm:X.w0.m=false:=by rfl):Ok X (.rangeFunc g params assign body) ds ρ L Q:=by
 refine ok_rangeFunc hr hg fun dk l=>?_
 have hspec:=it (.func (.yield l) #[] #[]) (fun q h=>SatL (loopP X.nt ρ params assign body dk l .ready none::K q) h) (fun q h=>SatL (loopP X.nt ρ params assign body dk l .done (some (jp q))::K q) h) go (by
  intro pre p hp
  cases hgo:go (pre++[p])with
  |true=>
   refine yield_on X.cv (hlen p) hps fun w0 R=>round l pre p hp ⟨w0,false⟩ R _ _ _ _ (fun ht h=>cont_round rfl ht h) ?_ ?_ ?_
   ·exact fun _ ht hk=>cont_round_end () ht rfl hk trivial
   ·exact fun e=>by rw[hgo]at e;cases e
   ·exact fun e=>by rw[hgo]at e;cases e
  |false=>
   refine yield_off X.cv (jp (pre++[p])) (hlen p) hps fun w0 R=>round l pre p hp ⟨w0,false⟩ R _ _ _ _ (fun ht h=>cont_round rfl ht h) ?_ ?_ ?_
   ·exact fun e=>by rw[hgo]at e;cases e
   ·exact fun _ e ht hk=>cont_round_exit () ht (by rw[e]) hk trivial
   ·exact fun _ e ht hk=>cont_round_ret () ht (by rw[e]) hk trivial)
 refine⟨Unit,fun _=>True,_,_,marked dk::R',_,FSpecM.of hm hspec,?_,?_⟩
 ·intro h s
  have s1:SatL (marked dk::loopP X.nt ρ params assign body dk l .ready none::(A++(K []++R'))) h:=
   (SatL.swap s).consMono fun _ s=>s.consMono fun _ s=>satL_append_mono A hK (ht.out s)
  have s2:SatL (marked dk::(A++[fun h=>SatL (loopP X.nt ρ params assign body dk l .ready none::K []) h]++R')) h:=s1.consMono fun _ s=>by
   refine satL_rot A ?_
   have s3:SatL ((loopP X.nt ρ params assign body dk l .ready none::K [])++(A++R')) _:=s.consMono fun _ s=>satL_comm A s
   exact SatL.unflat s3
  have:=satL_comm [marked dk] (B:=A++[fun h=>SatL (loopP X.nt ρ params assign body dk l .ready none::K []) h]) (L:=R') s2
  exact this
 ·intro _ _
  cases hb:(eat go [] xs).2 with
  |true=>
   refine⟨.ready,none,marked dk::K xs++(A++R'),by simp,?_,done dk hb⟩
   intro h s
   rw[eat_true hb]at s
   have s1:SatL ((loopP X.nt ρ params assign body dk l .ready none::K ([]++xs))++(A++marked dk::R')) h:=SatL.flat s
   refine SatL.consMono (A:=loopP X.nt ρ params assign body dk l .ready none) s1 fun _ s=>?_
   have s2:=satL_append_mono (K ([]++xs)) (fun _ k=>satL_comm A (B:=[marked dk]) (L:=R') k) s
   exact satL_comm (K ([]++xs)) (B:=[marked dk]) (L:=A++R') s2
  |false=>
   refine⟨.done,some (jp (eat go [] xs).1),marked dk::K (eat go [] xs).1++(A++R'),by simp,?_,stop dk _ (by rw[← hb])⟩
   intro h s
   have s1:SatL ((loopP X.nt ρ params assign body dk l .done (some (jp (eat go [] xs).1))::K (eat go [] xs).1)++(A++marked dk::R')) h:=SatL.flat s
   refine SatL.consMono (A:=loopP X.nt ρ params assign body dk l .done (some (jp (eat go [] xs).1))) s1 fun _ s=>?_
   have s2:=satL_append_mono (K (eat go [] xs).1) (fun _ k=>satL_comm A (B:=[marked dk]) (L:=R') k) s
   exact satL_comm (K (eat go [] xs).1) (B:=[marked dk]) (L:=A++R') s2
section
variable{Q:Exit→Act→World→Prop}
theorem ok_scope{c:Code}(hr:X.r=none)(h:Ok X c ds ρ L (Exit.noGoto Q)):Ok X (.scope c) ds ρ L Q:=by
 refine foldOk fun a w ha hs=>?_
 have h1:=unfoldOk h a w ha hs
 rw[hr]at h1 ⊢
 exact(wpIn_wide (n:=0)).2 (wp_scope_straight ((wpIn_wide (n:=0)).1 h1))
theorem cont_scope_ret(h:Cont X Q .ret ds ρ L):Cont X (Exit.noGoto Q) .ret ds ρ L:=foldCont fun a w ha hs=>unfoldCont h a w ha hs
theorem updMany_self:∀ (l:List (Nat×Value)) {ρ:Regs},(∀ x∈l,ρ x.1=x.2)→updMany ρ l=ρ
 | [],_,_=>rfl
 |(t,v)::l,ρ,h=>by
  have h1:upd ρ t v=ρ:=upd_self (h (t,v) (List.mem_cons_self ..))
  show updMany (upd ρ t v) l=ρ
  rw[h1]
  exact updMany_self l fun x hx=>h x (List.mem_cons_of_mem _ hx)
def Knows(ρ:Regs):List (Nat×Value)→Prop
 | []=>True
 |x::l=>ρ x.1=x.2∧Knows ρ l
theorem Knows.all{ρ:Regs}:∀ {l:List (Nat×Value)},Knows ρ l→∀ x∈l,ρ x.1=x.2
 | [],_,_,hx=>by cases hx
 |_::_,h,_,hx=>by
  rcases List.mem_cons.1 hx with rfl|hx
  ·exact h.1
  ·exact Knows.all h.2 _ hx
theorem ok_regs{c:Code}{l:List (Nat×Value)}(k:Knows ρ l)(h:Ok X c ds (updMany ρ l) L Q):Ok X c ds ρ L Q:=by
 rw[updMany_self l k.all]at h;exact h
theorem cont_regs{e:Exit}{l:List (Nat×Value)}(k:Knows ρ l)(h:Cont X Q e ds (updMany ρ l) L):Cont X Q e ds ρ L:=by
 rw[updMany_self l k.all]at h;exact h
end
end Go.Fx
namespace Go.Fx
open Go
def seqInfo(P:Program):List Field→Nat→Option (List TypeDesc)
 | [],_=>some []
 |f::fs,i=>if f.name≠ "_" ∧f.offset=i then
   match P.underlying f.type with
   |some .bool=>(seqInfo P fs (i+1)).map (TypeDesc.bool:: ·)
   |some (.int k)=>(seqInfo P fs (i+1)).map (TypeDesc.int k:: ·)
   |some .string=>(seqInfo P fs (i+1)).map (TypeDesc.string:: ·)
   |_=>none
  else none
def seqOk(P:Program)(t:TypeId):Option (List TypeDesc):=
 match P.underlying t with
 |some (.struct fs)=>if P.stoodInHeld t=false∧P.eqGuardType P.depth t=false then seqInfo P fs.toList 0 else none
 |_=>none
class SEq(P:Program)(t:TypeId)(ds:outParam (List TypeDesc)):Prop where
 info:seqOk P t=some ds
def fitD:TypeDesc→Value→Value→Bool
 | .bool,.bool _,.bool _=>true
 | .int _,.int k _,.int k' _=>decide (k=k')
 | .string,.string _,.string _=>true
 |_,_,_=>false
def eqD:Value→Value→Bool
 | .bool a,.bool b=>a==b
 | .int _ a,.int _ b=>a==b
 | .string a,.string b=>a.toList==b.toList
 |_,_=>false
def fitL:List TypeDesc→List Value→List Value→Bool
 | [],_,_=>true
 |d::ds,x::xs,y::ys=>fitD d x y&&fitL ds xs ys
 |_,_,_=>false
def eqL:List TypeDesc→List Value→List Value→Bool
 | [],_,_=>true
 |_::ds,x::xs,y::ys=>eqD x y&&eqL ds xs ys
 |_,_,_=>false
theorem run_part1{P:Program}{w:World}{t:TypeId}{d:TypeDesc}(hu:P.underlying t=some d)(ha:isAggD d=false){cs:Array Value}{i:Nat}{v:Value}(hv:cs[i]? =some v):(part t cs i).run P w= .ok v w:=by
 have:(isAgg t).run P w= .ok false w:=Ty.run_isAgg (I:=⟨hu⟩) ha
 simp[part,this,hv]
theorem run_eqD{P:Program}{w:World}{n:Nat}{t:TypeId}{d:TypeDesc}(hu:P.underlying t=some d){x y:Value}(hf:fitD d x y=true):(Op.equalIn (n+1) t x y).run P w= .ok (eqD x y) w:=by
 unfold fitD at hf
 split at hf
 ·exact run_equalIn_bool' w n t _ _ hu
 ·simp only[decide_eq_true_eq]at hf
  subst hf
  exact run_equalIn_int w n t _ _ _ _ hu
 ·exact run_equalIn_string w n t _ _ hu
 ·cases hf
theorem run_eqFields{P:Program}{w:World}{n:Nat}{xs ys:List Value}:∀ (fs:List Field) (i:Nat) (ds:List TypeDesc),seqInfo P fs i=some ds→fitL ds (xs.drop i) (ys.drop i)=true→
  (Op.eqFields (n+1) xs.toArray ys.toArray fs).run P w= .ok (eqL ds (xs.drop i) (ys.drop i)) w
 | [],i,ds,h,_=>by
  simp only[seqInfo,Option.some.injEq]at h
  subst h
  rfl
 |f::fs,i,ds,h,hf=>by
  unfold seqInfo at h
  split at h
  ·rename_i hn
   obtain⟨hn1,hn2⟩:=hn
   have go:∀ (d:TypeDesc) (ds':List TypeDesc),P.underlying f.type=some d→isAggD d=false→seqInfo P fs (i+1)=some ds'→ds=d::ds'→
     (Op.eqFields (n+1) xs.toArray ys.toArray (f::fs)).run P w= .ok (eqL ds (xs.drop i) (ys.drop i)) w:=by
    rintro d ds' hu ha hs rfl
    cases hx:xs.drop i with
    |nil=>rw[hx]at hf;cases hf
    |cons x xs'=>
     cases hy:ys.drop i with
     |nil=>rw[hx,hy]at hf;cases hf
     |cons y ys'=>
      rw[hx,hy]at hf
      simp only[fitL,Bool.and_eq_true]at hf
      have dx:xs.drop (i+1)=xs':=by rw[← List.drop_drop,hx];rfl
      have dy:ys.drop (i+1)=ys':=by rw[← List.drop_drop,hy];rfl
      have ex:xs.toArray[i]? =some x:=by
       rw[List.getElem?_toArray]
       have:(xs.drop i)[0]? =some x:=by rw[hx];rfl
       rwa [List.getElem?_drop]at this
      have ey:ys.toArray[i]? =some y:=by
       rw[List.getElem?_toArray]
       have:(ys.drop i)[0]? =some y:=by rw[hy];rfl
       rwa [List.getElem?_drop]at this
      have ih:=run_eqFields (w:=w) (n:=n) (xs:=xs) (ys:=ys) fs (i+1) ds' hs (by rw[dx,dy];exact hf.2)
      rw[dx,dy]at ih
      simp only[Op.eqFields,if_pos hn1,Sem.run_bind,hn2,run_part1 hu ha ex,run_part1 hu ha ey,Result.andThen_ok,run_eqD hu hf.1,eqL]
      cases eqD x y with
      |true=>simpa using ih
      |false=>simp
   split at h
   ·rename_i hu
    cases hs:seqInfo P fs (i+1)with
    |none=>simp[hs]at h
    |some ds'=>simp only[hs,Option.map_some,Option.some.injEq]at h;exact go _ _ hu rfl hs h.symm
   ·rename_i hu
    cases hs:seqInfo P fs (i+1)with
    |none=>simp[hs]at h
    |some ds'=>simp only[hs,Option.map_some,Option.some.injEq]at h;exact go _ _ hu rfl hs h.symm
   ·rename_i hu
    cases hs:seqInfo P fs (i+1)with
    |none=>simp[hs]at h
    |some ds'=>simp only[hs,Option.map_some,Option.some.injEq]at h;exact go _ _ hu rfl hs h.symm
   ·cases h
  ·cases h
theorem SEq.get{P:Program}{t:TypeId}{ds:List TypeDesc}(I:SEq P t ds):∃ fs:Array Field,P.underlying t=some (.struct fs)∧P.stoodInHeld t=false∧P.eqGuardType P.depth t=false∧seqInfo P fs.toList 0=some ds:=by
 have h:=I.info
 unfold seqOk at h
 split at h
 ·rename_i fs hu
  split at h
  ·rename_i hc
   exact⟨fs,hu,hc.1,hc.2,h⟩
  ·cases h
 ·cases h
variable{X:Cx}{ops:Array Oper}{nb:NB}{N:Act→World→Prop}{i:Nat}{os:List Oper}{Ls:List HProp}{ds:List Deferred}{ρ:Regs}{L:List HProp}{ty:TypeId}{d:Nat}
theorem a_structeq{op:BinOp}{xt yt:TypeId}{tds:List TypeDesc}[I:SEq X.P xt tds]{x y:Operand}{a b:List Value}{v:Bool}(hx:ev ρ x= .agg a.toArray)(hy:ev ρ y= .agg b.toArray)(ho:isEq op=true)(hf:fitL tds a b=true)(hv:nilB op (eqL tds a b)=v)(hd:Nat.blt d X.nt=true)
  (h:OpsL X ops nb N (i+1) os Ls ds (upd ρ d (.bool v)) L):Op1 X ops nb N i (some d) (.binOp op xt x y yt) ty os Ls ds ρ L:=by
 obtain⟨fs,hu,hs,hg,hi⟩:=I.get
 refine a_eq hx hy ho (fun op' w=>run_eqGuard_agg w op' xt x y _ _ hg) rfl rfl (t:=eqL tds a b) (fun w _=>?_) hv hd h
 have hfo:X.P.fieldsOf xt=fs:=by simp[Program.fieldsOf,hu]
 rw[equal_unfold,run_equalIn_struct w 9999 xt _ _ (by rw[hfo];exact hu) hs,hfo]
 have:=run_eqFields (P:=X.P) (w:=w) (n:=9998) (xs:=a) (ys:=b) fs.toList 0 tds hi (by simpa using hf)
 simpa using this
end Go.Fx
namespace Go.Fx
open Go
inductive Tag{α:Type}(a:α):Prop
 |mk
structure Hid(G:Prop):Prop where
 out:G
theorem takeD{L pre R:List HProp}(t:Take L pre R:=by(repeat(first|(apply Take.cons;(focus((repeat(first|exact Sel.here|apply Sel.there));first|done|fail)))|exact Take.nil));first|done|fail):Take L pre R:=t
theorem selD{L R:List HProp}{A:HProp}(t:Sel L A R:=by(repeat(first|exact Sel.here|apply Sel.there));first|done|fail):Sel L A R:=t
theorem memD{L:List HProp}{b:Nat}{o:Obj}(t:RdIn L b o:=by(repeat(first|exact RdIn.here (Rd.pts _ _)|(apply RdIn.here;apply Rd.orig;assumption)|(apply RdIn.here;with_reducible assumption)|apply RdIn.there));first|done|fail):RdIn L b o:=t
theorem entD{L pre R:List HProp}(t:∀ h,SatL L h→SatL (pre++R) h:=by exact(fun _ h=>ent (by(repeat(first|(apply Take.cons;(focus((repeat(first|exact Sel.here|apply Sel.there));first|done|fail)))|exact Take.nil))) (by(repeat(first|exact Keep.refl|apply Keep.drop))) h)):∀ h,SatL L h→SatL (pre++R) h:=t
theorem ok_drawT{X:Cx}{ops:Array Oper}{ds:List Deferred}{ρ:Regs}{L:List HProp}{Q:Exit→Act→World→Prop}{nb:List Nat}{Ls:List HProp}{id:Nat}{cv:List TypeId}(_:Tag nb)(hm:X.P.follows .mixedOrders=true)(hcv:X.cv=cv)(hok:regionOk ops (kdf cv ops) nb=true)(hsub:∀ h,SatL L h→SatL Ls h)
 (h:OpsL X ops ⟨nb,[],[]⟩ (Q .normal) 0 ops.toList Ls ds ρ L):Ok X (.region id ops true) ds ρ L Q:=ok_draw nb Ls hm hcv hok hsub h
theorem takeS{L Ls:List HProp}(t:∀ h,SatL L h→SatL Ls h:=by(first|exact(fun _ h=>Keep.out (by(repeat(first|exact Keep.refl|apply Keep.drop));first|done|fail) h)|exact(takePre (by(repeat(first|(apply Take.cons;(focus((repeat(first|exact Sel.here|apply Sel.there));first|done|fail)))|exact Take.nil));first|done|fail)))):∀ h,SatL L h→SatL Ls h:=t
theorem out1T{A:HProp}{L R:List HProp}(_:Tag A)(t:Take L [A] R){h:Frag}(s:SatL L h):SatL (A::R) h:=t.out s
end Go.Fx
set_option linter.unusedSimpArgs false
set_option linter.unusedVariables false
namespace Go.Fx
open Go
structure KT where
 α:Type
 dec:DecidableEq α
 enc:α→Value
instance(K:KT):DecidableEq K.α:=K.dec
@[reducible] def KStr:KT:=⟨ByteArray,inferInstance,.string⟩
@[reducible] def KInt(k:IntKind):KT:=⟨Int,inferInstance,.int k⟩
section pure
variable{K:KT}
def getK(K:KT)(a:K.α):List (K.α×Value)→Option Value
 | []=>none
 |(b,v)::l=>if a=b then some v else getK K a l
def putK(K:KT)(a:K.α)(v:Value):List (K.α×Value)→List (K.α×Value)
 | []=>[(a,v)]
 |(b,u)::l=>if a=b then(a,v)::l else(b,u)::putK K a v l
def delK(K:KT)(a:K.α):List (K.α×Value)→List (K.α×Value)
 | []=>[]
 |(b,u)::l=>if a=b then l else(b,u)::delK K a l
def ixK(K:KT)(a:K.α):List (K.α×Value)→Nat→Option (Nat×Value)
 | [],_=>none
 |(b,v)::l,i=>if a=b then some (i,v)else ixK K a l (i+1)
end pure
class KeyT(P:Program)(t:TypeId)(K:outParam KT):Prop where
 check:∀ e a w,(Instr.checkKey e 10000 t (K.enc a)).run P w= .ok () w
 find:∀ a (es:List MapEntry) (l:List (K.α×Value)) w,es.map (fun e=>(e.key,e.val))=l.map (fun x=>(K.enc x.1,x.2))→(Instr.findKey t (K.enc a) es).run P w= .ok (ixK K a l 0) w
 bits:∀ a,Instr.sameBits 10000 (K.enc a) (K.enc a)=true
theorem findNow_eq{d:TypeDesc}{K:KT}(hs:∀ a b,Instr.sameNow d (K.enc a) (K.enc b)=some (decide (a=b)))(a:K.α):∀ (es:List MapEntry) (l:List (K.α×Value)) (i:Nat),es.map (fun e=>(e.key,e.val))=l.map (fun x=>(K.enc x.1,x.2))→
  Instr.findNow d (K.enc a) es i=some (ixK K a l i)
 | [],[],_,_=>rfl
 | [],_::_,_,h=>by cases h
 |_::_,[],_,h=>by cases h
 |e::es,(b,v)::l,i,h=>by
  simp only[List.map_cons,List.cons.injEq,Prod.mk.injEq]at h
  obtain⟨⟨h1,h2⟩,h3⟩:=h
  unfold Instr.findNow ixK
  rw[h1,hs a b]
  by_cases hab:a=b
  ·simp[hab,h2]
  ·simp only[hab,decide_false,if_false]
   exact findNow_eq hs a es l (i+1) h3
theorem keyT_str{P:Program}{t:TypeId}(h:P.underlying t=some .string):KeyT P t KStr where
 check e a w:=MapKept.run_checkKey h (k:=.string a) trivial e 9999
 find a es l w he:=MapKept.run_findKey h (findNow_eq (K:=KStr) (fun a b=>by
  show some (a==b)=_
  congr 1
  by_cases hab:a=b
  ·subst hab
   rw[decide_eq_true rfl]
   show(a.data==a.data)=true
   exact beq_self_eq_true _
  ·have:¬ a.data=b.data:=fun e=>hab (ByteArray.ext e)
   rw[decide_eq_false hab]
   show(a.data==b.data)=false
   exact beq_eq_false_iff_ne.2 this) a es l 0 he)
 bits a:=by
  show(a.data==a.data)=true
  exact beq_self_eq_true _
structure MOK(K:KT)(es:List MapEntry)(clock:Nat)(l:List (K.α×Value)):Prop where
 kv:es.map (fun e=>(e.key,e.val))=l.map (fun x=>(K.enc x.1,x.2))
 nd:(l.map (·.1)).Nodup
 bnd:(es.map (·.born)).Nodup
 lt:∀ e∈es,e.born<clock
def mapK(K:KT)(m:Nat)(l:List (K.α×Value)):HProp:=fun h=>∃ es clock,h m=some (.map es clock)∧MOK K es.toList clock l
section pure2
variable{K:KT}
theorem ixK_shift(a:K.α):∀ (l:List (K.α×Value)) (i:Nat),ixK K a l i=(ixK K a l 0).map fun x=>(x.1+i,x.2)
 | [],_=>rfl
 |(b,v)::l,i=>by
  unfold ixK
  split
  ·simp
  ·rw[ixK_shift a l (i+1),ixK_shift a l (0+1)]
   cases ixK K a l 0 with
   |none=>rfl
   |some x=>simp;omega
theorem getK_ix(a:K.α):∀ (l:List (K.α×Value)) (i:Nat),(ixK K a l i).map (·.2)=getK K a l
 | [],_=>rfl
 |(b,v)::l,i=>by
  unfold ixK getK
  split
  ·rfl
  ·exact getK_ix a l (i+1)
theorem put_ix{a:K.α}{v:Value}:∀ {l:List (K.α×Value)} {i:Nat} {u:Value},ixK K a l 0=some (i,u)→putK K a v l=l.modify i (fun _=>(a,v))∧∃ x,l[i]? =some x∧x.1=a
 | [],_,_,h=>by cases h
 |(b,w)::l,i,u,h=>by
  unfold ixK at h
  unfold putK
  by_cases hab:a=b
  ·rw[if_pos hab]at h ⊢
   cases h
   exact⟨rfl,_,rfl,hab.symm⟩
  ·rw[if_neg hab]at h ⊢
   rw[ixK_shift]at h
   cases hx:ixK K a l 0 with
   |none=>rw[hx]at h;cases h
   |some x=>
    rw[hx]at h
    simp only[Option.map_some,Option.some.injEq,Prod.mk.injEq]at h
    obtain⟨h1,h2⟩:=put_ix (v:=v) hx
    obtain⟨rfl,rfl⟩:=h
    exact⟨by rw[h1];rfl,h2⟩
theorem put_none{a:K.α}{v:Value}:∀ {l:List (K.α×Value)},ixK K a l 0=none→putK K a v l=l++[(a,v)]∧a∉l.map (·.1)
 | [],_=>⟨rfl,by simp⟩
 |(b,w)::l,h=>by
  unfold ixK at h
  unfold putK
  by_cases hab:a=b
  ·rw[if_pos hab]at h;cases h
  ·rw[if_neg hab]at h ⊢
   rw[ixK_shift]at h
   have hx:ixK K a l 0=none:=by
    cases hx:ixK K a l 0 with
    |none=>rfl
    |some x=>rw[hx]at h;cases h
   obtain⟨h1,h2⟩:=put_none (v:=v) hx
   exact⟨by rw[h1];rfl,by simp[hab];simpa using h2⟩
theorem del_ix{a:K.α}:∀ {l:List (K.α×Value)} {i:Nat} {u:Value},ixK K a l 0=some (i,u)→delK K a l=l.eraseIdx i
 | [],_,_,h=>by cases h
 |(b,w)::l,i,u,h=>by
  unfold ixK at h
  unfold delK
  by_cases hab:a=b
  ·rw[if_pos hab]at h ⊢
   cases h
   rfl
  ·rw[if_neg hab]at h ⊢
   rw[ixK_shift]at h
   cases hx:ixK K a l 0 with
   |none=>rw[hx]at h;cases h
   |some x=>
    rw[hx]at h
    simp only[Option.map_some,Option.some.injEq,Prod.mk.injEq]at h
    obtain⟨rfl,rfl⟩:=h
    rw[del_ix hx];rfl
theorem del_none{a:K.α}:∀ {l:List (K.α×Value)},ixK K a l 0=none→delK K a l=l
 | [],_=>rfl
 |(b,w)::l,h=>by
  unfold ixK at h
  unfold delK
  by_cases hab:a=b
  ·rw[if_pos hab]at h;cases h
  ·rw[if_neg hab]at h ⊢
   rw[ixK_shift]at h
   have hx:ixK K a l 0=none:=by
    cases hx:ixK K a l 0 with
    |none=>rfl
    |some x=>rw[hx]at h;cases h
   rw[del_none hx]
theorem modify_map{α β:Type}{f:α→β}{g:α→α}{g':β→β}(hg:∀ x,f (g x)=g' (f x)):∀ (l:List α) (i:Nat),(l.modify i g).map f=(l.map f).modify i g'
 | [],i=>by cases i<;>rfl
 |x::l,0=>by simp[hg]
 |x::l,i+1=>by simp[modify_map hg l i]
theorem mem_modify_id{α:Type}{β:Type}{g:α→α}{f:α→β}(hg:∀ x,f (g x)=f x):∀ (l:List α) (i:Nat) (y:α),y∈l.modify i g→∃ x∈l,f x=f y
 | [],i,y,h=>by cases i<;>simp at h
 |x::l,0,y,h=>by
  simp only[List.modify_zero_cons,List.mem_cons]at h
  rcases h with rfl|h
  ·exact⟨x,by simp,(hg x).symm⟩
  ·exact⟨y,by simp[h],rfl⟩
 |x::l,i+1,y,h=>by
  simp only[List.modify_succ_cons,List.mem_cons]at h
  rcases h with rfl|h
  ·exact⟨y,by simp,rfl⟩
  ·obtain⟨z,hz,e⟩:=mem_modify_id hg l i y h
   exact⟨z,by simp[hz],e⟩
theorem modify_self{α:Type}{g:α→α}:∀ (l:List α) (i:Nat),(∀ x,l[i]? =some x→g x=x)→l.modify i g=l
 | [],i,_=>by cases i<;>rfl
 |x::l,0,h=>by simp[h x rfl]
 |x::l,i+1,h=>by simp only[List.modify_succ_cons];rw[modify_self l i (by simpa using h)]
theorem MOK.put_some{es:List MapEntry}{clock:Nat}{l:List (K.α×Value)}(h:MOK K es clock l){a:K.α}{v u:Value}{i:Nat}(hi:ixK K a l 0=some (i,u)):
  MOK K (es.modify i fun e=>{e with key:=K.enc a,val:=v}) clock (putK K a v l):=by
 obtain⟨h1,x,hx,hxa⟩:=put_ix (v:=v) hi
 refine⟨?_,?_,?_,?_⟩
 ·rw[modify_map (f:=fun e:MapEntry=>(e.key,e.val)) (g':=fun _=>(K.enc a,v)) (fun _=>rfl),h.kv,h1,modify_map (f:=fun x:K.α×Value=>(K.enc x.1,x.2)) (g':=fun _=>(K.enc a,v)) (fun _=>rfl)]
 ·rw[h1,modify_map (f:=fun x:K.α×Value=>x.1) (g':=fun _=>a) (fun _=>rfl),modify_self]
  ·exact h.nd
  ·intro y hy
   rw[List.getElem?_map,hx]at hy
   simp only[Option.map_some,Option.some.injEq]at hy
   rw[← hy,hxa]
 ·rw[modify_map (f:=fun e:MapEntry=>e.born) (g:=fun e=>{e with key:=K.enc a,val:=v}) (g':=id) (fun _=>rfl),modify_self (g:=id) _ _ (fun _ _=>rfl)]
  exact h.bnd
 ·intro e he
  obtain⟨z,hz,e2⟩:=mem_modify_id (f:=fun e:MapEntry=>e.born) (g:=fun e=>{e with key:=K.enc a,val:=v}) (fun _=>rfl) es i e he
  have:=h.lt z hz
  rw[e2]at this;exact this
theorem MOK.put_none{es:List MapEntry}{clock:Nat}{l:List (K.α×Value)}(h:MOK K es clock l){a:K.α}{v:Value}(hi:ixK K a l 0=none):
  MOK K (es++[{key:=K.enc a,val:=v,born:=clock}]) (clock+1) (putK K a v l):=by
 obtain⟨h1,h2⟩:=Fx.put_none (v:=v) hi
 rw[h1]
 refine⟨?_,?_,?_,?_⟩
 ·rw[List.map_append,List.map_append,h.kv];rfl
 ·rw[List.map_append]
  refine List.nodup_append.2 ⟨h.nd,by simp,?_⟩
  intro x hx y hy e
  simp only[List.map_cons,List.map_nil,List.mem_singleton]at hy
  subst hy e
  exact h2 hx
 ·rw[List.map_append]
  refine List.nodup_append.2 ⟨h.bnd,by simp,?_⟩
  intro x hx y hy e
  simp only[List.map_cons,List.map_nil,List.mem_singleton]at hy
  subst hy e
  obtain⟨z,hz,hzb⟩:=List.mem_map.1 hx
  have:=h.lt z hz
  omega
 ·intro e he
  rcases List.mem_append.1 he with he|he
  ·have:=h.lt e he;omega
  ·simp only[List.mem_singleton]at he;subst he;exact Nat.lt_succ_self _
theorem map_eraseIdx{α β:Type}{f:α→β}:∀ (l:List α) (i:Nat),(l.eraseIdx i).map f=(l.map f).eraseIdx i
 | [],i=>by cases i<;>rfl
 |x::l,0=>rfl
 |x::l,i+1=>by simp[map_eraseIdx l i]
theorem MOK.del{es:List MapEntry}{clock:Nat}{l:List (K.α×Value)}(h:MOK K es clock l){a:K.α}{u:Value}{i:Nat}(hi:ixK K a l 0=some (i,u)):
  MOK K (es.eraseIdx i) clock (delK K a l):=by
 rw[del_ix hi]
 refine⟨?_,?_,?_,?_⟩
 ·rw[map_eraseIdx,map_eraseIdx,h.kv]
 ·exact h.nd.sublist ((List.eraseIdx_sublist l i).map _)
 ·exact h.bnd.sublist ((List.eraseIdx_sublist es i).map _)
 ·exact fun e he=>h.lt e ((List.eraseIdx_sublist es i).mem he)
end pure2
section
variable{X:Cx}{ops:Array Oper}{nb:NB}{N:Act→World→Prop}{i:Nat}{os:List Oper}{Ls:List HProp}{ds:List Deferred}{ρ:Regs}{L:List HProp}{ty:TypeId}{d:Nat}
def mview(K:KT)(m:Nat)(l:List (K.α×Value))(h:Frag):Prop:=∃ es clock,h m=some (.map es clock)∧MOK K es.toList clock l
inductive MpIn(K:KT)(m:Nat)(l:List (K.α×Value)):List HProp→Prop
 |here {H:HProp} {L:List HProp} (h:∀ h,H h→mview K m l h):MpIn K m l (H::L)
 |there {H:HProp} {L:List HProp} (h:MpIn K m l L):MpIn K m l (H::L)
theorem MpIn.satL{K:KT}{m:Nat}{l:List (K.α×Value)}{L:List HProp}(r:MpIn K m l L):∀ {h:Frag},SatL L h→mview K m l h:=by
 induction r with
 |here hr=>
  rintro h ⟨h1,_,_,l1,_,hA,_⟩
  obtain⟨es,clock,e,k⟩:=hr _ hA
  exact⟨es,clock,l1 _ _ e,k⟩
 |there _ ih=>exact fun s=>ih s.tail
def lookOf(ok:Bool)(z:Value)(o:Option Value):Value:=if ok then .tuple #[o.getD z,.bool o.isSome]else o.getD z
theorem a_lookup [NoT nb]{mt kt et:Nat}{z:Value}{K:KT}[I:Mp X.P mt kt et][J:KeyT X.P kt K][Z:Zr X.P et z]{x y:Operand}{m:Nat}{a:K.α}{l:List (K.α×Value)}{ok:Bool}{o:Option Value}{v:Value}
  (hx:ev ρ x= .map (some m))(hy:ev ρ y=K.enc a)(hm:MpIn K m l Ls)(ho:getK K a l=o)(hv:lookOf ok z o=v)(hd:Nat.blt d X.nt=true)(h:OpsL X ops nb N (i+1) os Ls ds (upd ρ d v) L):
  Op1 X ops nb N i (some d) (.lookup mt x y ok) ty os Ls ds ρ L:=by
 subst hv ho
 refine op_quiet (fun _ e=>by cases e) (fun _ _ _=>by simp[qk]) (fun x hx=>by cases hx;exact hd) ?_ h
 intro pos after gd w hw
 have hs:=hw.resolve_left (by simp[qk])
 obtain⟨es,clock,hb',hk⟩:=hm.satL hs.heap
 have hb:w.heap[m]? =some (.map es clock):=hb'
 simp only[execOp,hx,hy,Instr.lookup,Sem.run_bind,run_underlying_of I.und,Result.andThen_ok,MapKept.run_getObj_map (P:=X.P) hb,Sem.run_pure,J.check,J.find a es.toList l w hk.kv]
 rw[← getK_ix a l 0]
 cases ixK K a l 0 with
 |some x=>cases ok<;>rfl
 |none=>simp only[Sem.run_bind,Z.run_zero,Result.andThen_ok,Sem.run_pure];cases ok<;>rfl
theorem Sats.mapObj{w0:W0}{w:World}{K:KT}{m:Nat}{l:List (K.α×Value)}{L:List HProp}(s:Sats w0 w (mapK K m l::L)):∃ es clock,w.heap[m]? =some (.map es clock)∧MOK K es.toList clock l∧
  ∀ es' clock' l',MOK K es'.toList clock' l'→Sats w0 {w with heap:=w.heap.setIfInBounds m (.map es' clock')} (mapK K m l'::L):=by
 obtain⟨h1,h2,ha,l1,l2,⟨es,clock,e,k⟩,hL⟩:=s.heap
 refine⟨es,clock,l1 _ _ e,k,fun es' clock' l' k'=>?_⟩
 have s':Sats w0 w (pts m (.map es clock)::L):=⟨s.os,s.tape,s.output,s.size,⟨h1,h2,ha,l1,l2,e,hL⟩⟩
 exact(s'.setObj (.map es' clock')).map fun _ hh=>hh.headMono fun _ hp=>⟨es',clock',hp,k'⟩
theorem e_mapUpdate{mt kt et:Nat}{K:KT}[I:Mp X.P mt kt et][J:KeyT X.P kt K]{x y z:Operand}{m:Nat}{a:K.α}{l:List (K.α×Value)}{v:Value}{R:List HProp}{d:Option Nat}
  (hx:ev ρ x= .map (some m))(hy:ev ρ y=K.enc a)(hz:ev ρ z=v)(hsel:Sel L (mapK K m l) R):
  Eff X d (.mapUpdate mt x y z) ty ρ L Unit (fun _=>True) (fun _=>undef) (fun _=>mapK K m (putK K a v l)::R):=by
 subst hz
 refine eff_intro1 (fun _ e=>by cases e) (fun _ _ _=>rfl) fun pos after gd w hs=>?_
 obtain⟨es,clock,hb,hk,hset⟩:=(hs.sel hsel).mapObj
 unfold OpVal
 simp only[execOp,hx,hy,Instr.mapUpdate,Sem.run_bind,run_underlying_of I.und,Result.andThen_ok,MapKept.run_getObj_map (P:=X.P) hb,J.check,J.find a es.toList l w hk.kv]
 cases hix:ixK K a l 0 with
 |none=>
  have hk2:=hk.put_none (v:=ev ρ z) hix
  simp only[MapKept.run_setObj_map (P:=X.P) _ hb,Sem.run_bind,Result.andThen_ok,Sem.run_pure]
  exact⟨trivial,hset _ _ _ (by simpa using hk2)⟩
 |some x=>
  obtain⟨i',u⟩:=x
  obtain⟨_,b,hbx,hba⟩:=put_ix (v:=ev ρ z) hix
  have hk2:=hk.put_some (v:=ev ρ z) hix
  have he:((es[i']?).map (·.key)).getD (K.enc a)=K.enc a:=by
   have h1:(es.toList.map (fun e=>(e.key,e.val)))[i']? =(l.map (fun x=>(K.enc x.1,x.2)))[i']? :=by rw[hk.kv]
   simp only[List.getElem?_map,hbx,Option.map_some]at h1
   rw[Array.getElem?_toList]at h1
   cases hi':es[i']? with
   |none=>rw[hi']at h1;cases h1
   |some e=>
    rw[hi']at h1
    simp only[Option.map_some,Option.some.injEq,Prod.mk.injEq]at h1
    simp[h1.1,hba]
  simp only[Instr.keyThatStays,he,J.bits,if_true,Sem.run_bind,Sem.run_pure,Result.andThen_ok,MapKept.run_setObj_map (P:=X.P) _ hb]
  exact⟨trivial,hset _ _ _ (by simpa using hk2)⟩
theorem e_delete{mt kt et kt':Nat}{K:KT}[I:Mp X.P mt kt et][J:KeyT X.P kt K]{x y:Operand}{m:Nat}{a:K.α}{l:List (K.α×Value)}{R:List HProp}{d:Option Nat}
  (hx:ev ρ x= .map (some m))(hy:ev ρ y=K.enc a)(hsel:Sel L (mapK K m l) R):
  Eff X d (.call {callee:=.builtin .delete,args:= #[x,y],argTypes:= #[mt,kt']}) ty ρ L Unit (fun _=>True) (fun _=>.tuple #[]) (fun _=>mapK K m (delK K a l)::R):=by
 refine eff_intro1 (fun _ e=>by cases e) (fun _ _ _=>rfl) fun pos after gd w hs=>?_
 obtain⟨es,clock,hb,hk,hset⟩:=(hs.sel hsel).mapObj
 have hop:execOp (ev ρ) ⟨d,.call {callee:=.builtin .delete,args:= #[x,y],argTypes:= #[mt,kt']},ty,pos,after,gd⟩=(do pure (.value (← Builtin.delete_ #[mt,kt'] ty #[.map (some m),K.enc a]))):=by
  simp[execOp,resolve,invoke,builtin,hx,hy]
 unfold OpVal
 rw[hop]
 simp only[Builtin.delete_,Sem.run_bind,run_underlying_of I.und,Result.andThen_ok,MapKept.run_getObj_map (P:=X.P) hb,J.check,J.find a es.toList l w hk.kv,List.getElem?_toArray,List.getElem?_cons_zero,List.getElem?_cons_succ]
 cases hix:ixK K a l 0 with
 |none=>
  rw[del_none hix]
  simp only[MapKept.run_setObj_map (P:=X.P) _ hb,Sem.run_bind,Result.andThen_ok,Sem.run_pure]
  exact⟨trivial,hset _ _ _ hk⟩
 |some x=>
  obtain⟨i',u⟩:=x
  have hk2:=hk.del hix
  simp only[MapKept.run_setObj_map (P:=X.P) _ hb,Sem.run_bind,Result.andThen_ok,Sem.run_pure]
  refine⟨trivial,hset _ _ _ ?_⟩
  have:(es.eraseIdxIfInBounds i').toList=es.toList.eraseIdx i':=by
   unfold Array.eraseIdxIfInBounds
   split
   ·simp
   ·rename_i hlt
    rw[List.eraseIdx_of_length_le];simpa using hlt
  rw[this];exact hk2
theorem e_makeMap{mt kt et:Nat}(K:KT)[I:Mp X.P mt kt et][J:KeyT X.P kt K]{d:Nat}:
  Eff X (some d) (.makeMap mt none) ty ρ L Nat (fun _=>True) (fun b=>.map (some b)) (fun b=>mapK K b []::L):=by
 refine⟨(fun _ e=>by cases e),fun pos after gd=>⟨rfl,fun w hs=>?_⟩⟩
 unfold OpVal
 simp only[execOp,Instr.makeMap,Option.map_none,Sem.run_bind,run_newObj,Sem.run_pure,Result.andThen_ok]
 refine⟨w.heap.size,trivial,rfl,(hs.alloc (.map #[] 0)).map fun _ hh=>hh.headMono fun _ hp=>⟨#[],0,hp,⟨rfl,by simp,by simp,by simp⟩⟩⟩
theorem s_mapUpdate [NoT nb]{mt kt et:Nat}{K:KT}[I:Mp X.P mt kt et][J:KeyT X.P kt K]{x y z:Operand}{m:Nat}{a:K.α}{l:List (K.α×Value)}{v:Value}{R:List HProp}
  (hx:ev ρ x= .map (some m))(hy:ev ρ y=K.enc a)(hz:ev ρ z=v)(hsel:Sel L (mapK K m l) R)(hb:nb.contains i=false)
  (h:OpsL X ops nb N (i+1) os (mapK K m (putK K a v l)::R) ds ρ (mapK K m (putK K a v l)::R)):Op1 X ops nb N i none (.mapUpdate mt x y z) ty os Ls ds ρ L:=
 op_eff (e_mapUpdate hx hy hz hsel) (fun _ e=>by cases e) hb fun _ _=>h
theorem s_delete [NoT nb]{mt kt et kt':Nat}{K:KT}[I:Mp X.P mt kt et][J:KeyT X.P kt K]{x y:Operand}{m:Nat}{a:K.α}{l:List (K.α×Value)}{R:List HProp}
  (hx:ev ρ x= .map (some m))(hy:ev ρ y=K.enc a)(hsel:Sel L (mapK K m l) R)(hb:nb.contains i=false)
  (h:OpsL X ops nb N (i+1) os (mapK K m (delK K a l)::R) ds ρ (mapK K m (delK K a l)::R)):Op1 X ops nb N i none (.call {callee:=.builtin .delete,args:= #[x,y],argTypes:= #[mt,kt']}) ty os Ls ds ρ L:=
 op_eff (e_delete hx hy hsel) (fun _ e=>by cases e) hb fun _ _=>h
theorem s_makeMap [NoT nb]{mt kt et:Nat}{K:KT}[I:Mp X.P mt kt et][J:KeyT X.P kt K](hd:Nat.blt d X.nt=true)(hb:nb.contains i=false)
  (h:∀ b,OpsL X ops nb N (i+1) os (mapK K b []::L) ds (upd ρ d (.map (some b))) (mapK K b []::L)):Op1 X ops nb N i (some d) (.makeMap mt none) ty os Ls ds ρ L:=
 op_eff (e_makeMap K) (fun _ e=>by cases e;exact hd) hb fun b _=>h b
end
end Go.Fx
namespace Go.Fx
open Go
open Go.ChangeMaps (setBlock)
def rangeK(K:KT)(it m:Nat)(l rem:List (K.α×Value))(cur:Option (K.α×Value)):HProp:=fun h=>∃ es clock seen,h m=some (.map es clock)∧MOK K es.toList clock l∧h it=some (.mapIter (some m) clock seen clock)∧
 (es.toList.filter (fun e=> !seen.contains e.born)).map (fun e=>(e.key,e.val))=rem.map (fun x=>(K.enc x.1,x.2))∧∀ x,cur=some x→∃ e∈es.toList,∃ s0,seen=Array.push s0 e.born∧e.key=K.enc x.1∧e.val=x.2
theorem rangeK.map{K:KT}{it m:Nat}{l rem:List (K.α×Value)}{cur:Option (K.α×Value)}{h:Frag}(r:rangeK K it m l rem cur h):mapK K m l h:=
 let⟨es,clock,_,h1,h2,_⟩:=r;⟨es,clock,h1,h2⟩
theorem filter_push{es:List MapEntry}{seen:Array Nat}{e:MapEntry}(hn:(es.map (·.born)).Nodup){pre post:List MapEntry}(h:es.filter (fun e=> !seen.contains e.born)=pre++e::post):
  es.filter (fun x=> !(seen.push e.born).contains x.born)=pre++post:=by
 have h1:es.filter (fun x=> !(seen.push e.born).contains x.born)=(es.filter (fun x=> !seen.contains x.born)).filter (fun x=> !(x.born==e.born)):=by
  rw[List.filter_filter]
  congr 1
  funext x
  simp only[Array.contains_push,Bool.not_or,Bool.and_comm]
 rw[h1,h]
 have h2:((pre++e::post).map (·.born)).Nodup:=by rw[← h];exact hn.sublist ((List.filter_sublist).map _)
 rw[List.map_append,List.map_cons]at h2
 obtain⟨h3,h4,h5⟩:=List.nodup_append.1 h2
 obtain⟨h6,h7⟩:=List.nodup_cons.1 h4
 rw[List.filter_append,List.filter_cons]
 simp only[beq_self_eq_true,Bool.not_true,Bool.false_eq_true,if_false]
 congr 1
 ·rw[List.filter_eq_self]
  intro x hx
  have:=h5 x.born (List.mem_map.2 ⟨x,hx,rfl⟩) e.born (List.mem_cons_self ..)
  simpa using this
 ·rw[List.filter_eq_self]
  intro x hx
  have:x.born≠e.born:=fun he=>h6 (he▸List.mem_map.2 ⟨x,hx,rfl⟩)
  simpa using this
section
variable{X:Cx}{ops:Array Oper}{nb:NB}{N:Act→World→Prop}{i:Nat}{os:List Oper}{Ls:List HProp}{ds:List Deferred}{ρ:Regs}{L:List HProp}{ty:TypeId}{d:Nat}
theorem s_range [NoT nb]{mt kt et:Nat}{K:KT}[I:Mp X.P mt kt et]{x:Operand}{m:Nat}{l:List (K.α×Value)}{R:List HProp}(hx:ev ρ x= .map (some m))(hsel:Sel L (mapK K m l) R)(hd:Nat.blt d X.nt=true)(hb:nb.contains i=false)
  (h:∀ it,OpsL X ops nb N (i+1) os (rangeK K it m l l none::R) ds (upd ρ d (.pointer (some ⟨it,0,none⟩))) (rangeK K it m l l none::R)):Op1 X ops nb N i (some d) (.range mt x) ty os Ls ds ρ L:=by
 refine op_eff (Y:=Nat) (φ:=fun _=>True) (v:=fun it=>.pointer (some ⟨it,0,none⟩)) (L':=fun it=>rangeK K it m l l none::R) ⟨(fun _ e=>by cases e),fun pos after gd=>⟨rfl,fun w hs=>?_⟩⟩ (fun _ e=>by cases e;exact hd) hb fun it _=>h it
 have hs':=hs.sel hsel
 obtain⟨h1,h2,ha,l1,l2,⟨es,clock,e,k⟩,hL⟩:=hs'.heap
 have hb:w.heap[m]? =some (.map es clock):=l1 _ _ e
 unfold OpVal
 simp only[execOp,hx,Instr.range,Sem.run_bind,run_underlying_of I.und,Result.andThen_ok,MapKept.run_getObj_map (P:=X.P) hb,Sem.run_pure,run_newObj]
 refine⟨w.heap.size,trivial,rfl,?_⟩
 have s2:Sats X.w0 w (pts m (.map es clock)::R):=⟨hs'.os,hs'.tape,hs'.output,hs'.size,⟨h1,h2,ha,l1,l2,e,hL⟩⟩
 refine(s2.alloc (.mapIter (some m) clock #[] clock)).map fun _ hh=>?_
 have h3:SatL ((fun h=>SatL [pts w.heap.size (.mapIter (some m) clock #[] clock),pts m (.map es clock)] h)::R) _:=SatL.unflat (M:=[pts w.heap.size (.mapIter (some m) clock #[] clock),pts m (.map es clock)]) hh
 refine h3.headMono fun f hf=>?_
 have e1:f w.heap.size=some (.mapIter (some m) clock #[] clock):=(RdIn.here (Rd.pts _ _)).satL hf
 have e2:f m=some (.map es clock):=(RdIn.there (RdIn.here (Rd.pts _ _))).satL hf
 refine⟨es,clock,#[],e2,k,e1,?_,fun x hx=>by cases hx⟩
 rw[List.filter_eq_self.2 (by simp)]
 exact k.kv
theorem Sats.rangeObj{w0:W0}{w:World}{K:KT}{it m:Nat}{l rem:List (K.α×Value)}{cur:Option (K.α×Value)}{L:List HProp}(s:Sats w0 w (rangeK K it m l rem cur::L)):
  ∃ es clock seen,w.heap[m]? =some (.map es clock)∧MOK K es.toList clock l∧w.heap[it]? =some (.mapIter (some m) clock seen clock)∧(es.toList.filter (fun e=> !seen.contains e.born)).map (fun e=>(e.key,e.val))=rem.map (fun x=>(K.enc x.1,x.2))∧
  ∀ (w1:World) e pre post,(w1=w∨w1=w.drew)→es.toList.filter (fun e=> !seen.contains e.born)=pre++e::post→∃ x rpre rpost,rem=rpre++x::rpost∧e.key=K.enc x.1∧e.val=x.2∧
   Sats w0 (setBlock w1 it (.mapIter (some m) clock (seen.push e.born) clock)) (rangeK K it m l (rpre++rpost) (some x)::L):=by
 obtain⟨h1,h2,ha,l1,l2,⟨es,clock,seen,e1,k,e2,hr,_⟩,hL⟩:=s.heap
 refine⟨es,clock,seen,l1 _ _ e1,k,l1 _ _ e2,hr,fun w1 e pre post hw1 hf=>?_⟩
 rw[hf]at hr
 rw[List.map_append,List.map_cons]at hr
 obtain⟨rpre,rest,hrem,hp1,hp2⟩:=List.map_eq_append_iff.1 hr.symm
 obtain⟨x,rpost,hrest,hx,hp3⟩:=List.map_eq_cons_iff.1 hp2
 subst hrem hrest
 simp only[Prod.mk.injEq]at hx
 refine⟨x,rpre,rpost,rfl,hx.1.symm,hx.2.symm,?_⟩
 have hne:it≠m:=fun he=>by rw[he,e1]at e2;cases e2
 have s1:Sats w0 w1 (rangeK K it m l (rpre++x::rpost) cur::L):=by
  rcases hw1 with rfl|rfl
  ·exact s
  ·exact s.drew
 have hh:w1.heap=w.heap:=by rcases hw1 with rfl|rfl<;>rfl
 have hlt:it<w.heap.size:=(Array.getElem?_eq_some_iff.1 (l1 _ _ e2:w.heap[it]? =_)).1
 refine⟨s1.os,s1.tape,s1.output,by simpa [setBlock]using s1.size,?_⟩
 refine⟨fun b=>if b=it then some (.mapIter (some m) clock (seen.push e.born) clock)else h1 b,h2,?_,?_,?_,?_,hL⟩
 ·intro b o o' ho ho'
  dsimp only at ho
  split at ho
  ·rename_i hb;subst hb;exact ha _ _ _ e2 ho'
  ·exact ha _ _ _ ho ho'
 ·intro b o ho
  dsimp only at ho
  show((setBlock w1 it _).heap)[b]? =some o
  simp only[setBlock,hh]
  split at ho
  ·rename_i hb;subst hb;cases ho;simp[hlt]
  ·rename_i hb
   rw[Array.getElem?_setIfInBounds_ne (Ne.symm hb)]
   exact l1 _ _ ho
 ·intro b o ho
  show((setBlock w1 it _).heap)[b]? =some o
  simp only[setBlock,hh]
  have hb:b≠it:=fun hb=>by subst hb;exact ha _ _ _ e2 ho
  rw[Array.getElem?_setIfInBounds_ne (Ne.symm hb)]
  exact l2 _ _ ho
 ·refine⟨es,clock,seen.push e.born,?_,k,by simp,?_,?_⟩
  ·show(if m=it then _ else h1 m)=_
   rw[if_neg (Ne.symm hne)];exact e1
  ·rw[filter_push k.bnd hf,List.map_append,List.map_append,← hp1,← hp3]
  ·intro y hy
   cases hy
   have hmem:e∈es.toList:=(List.mem_filter.1 (by rw[hf];simp:e∈es.toList.filter _)).1
   exact⟨e,hmem,seen,rfl,hx.1.symm,hx.2.symm⟩
theorem s_next [NoT nb]{K:KT}{x:Operand}{it m:Nat}{l rem:List (K.α×Value)}{cur:Option (K.α×Value)}{R:List HProp}(hx:ev ρ x= .pointer (some ⟨it,0,none⟩))(hsel:Sel L (rangeK K it m l rem cur) R)(hd:Nat.blt d X.nt=true)(hb:nb.contains i=false)
  (h0:rem=[]→OpsL X ops nb N (i+1) os (rangeK K it m l rem cur::R) ds (upd ρ d (.tuple #[.bool false])) (rangeK K it m l rem cur::R))
  (h1:∀ x pre post,rem=pre++x::post→OpsL X ops nb N (i+1) os (rangeK K it m l (pre++post) (some x)::R) ds (upd ρ d (.tuple #[.bool true,K.enc x.1,x.2])) (rangeK K it m l (pre++post) (some x)::R)):Op1 X ops nb N i (some d) (.next x false) ty os Ls ds ρ L:=by
 refine op_eff (Y:=Option ((K.α×Value)×List (K.α×Value)×List (K.α×Value))) (φ:=fun y=>match y with|none=>rem=[]|some (x,pre,post)=>rem=pre++x::post)
  (v:=fun y=>match y with|none=>.tuple #[.bool false]|some (x,_,_)=>.tuple #[.bool true,K.enc x.1,x.2])
  (L':=fun y=>match y with|none=>rangeK K it m l rem cur::R|some (x,pre,post)=>rangeK K it m l (pre++post) (some x)::R) ⟨(fun _ e=>by cases e),fun pos after gd=>⟨rfl,fun w hs=>?_⟩⟩ (fun _ e=>by cases e;exact hd) hb fun y hy=>?_
 ·have hs':=hs.sel hsel
  obtain⟨es,clock,seen,hbm,k,hbi,hr,hstep⟩:=hs'.rangeObj
  unfold OpVal
  rcases run_next_at (P:=X.P) w ty it m clock clock seen es clock hbi hbm k.lt (Nat.le_refl _)with⟨h0',hrun⟩|⟨e,he,w1,hw1,hrun⟩
  ·simp only[execOp,hx,Sem.run_bind,hrun,Result.andThen_ok,Sem.run_pure]
   have hl:(es.toList.filter (fun e=> !seen.contains e.born))=[]:=by
    have:(leftOf es seen).toList=[]:=by rw[← List.length_eq_zero_iff];simpa using h0'
    simpa [leftOf]using this
   rw[hl]at hr
   have hrem:rem=[]:=by simpa using hr.symm
   exact⟨none,hrem,rfl,hs'⟩
  ·simp only[execOp,hx,Sem.run_bind,hrun,Result.andThen_ok,Sem.run_pure]
   have he':e∈es.toList.filter (fun e=> !seen.contains e.born):=by simpa [leftOf]using he
   obtain⟨pre,post,hpp⟩:=List.append_of_mem he'
   obtain⟨y,rpre,rpost,hrem,hk,hv,hsats⟩:=hstep w1 e pre post hw1 hpp
   exact⟨some (y,rpre,rpost),hrem,by rw[hk,hv],hsats⟩
 ·cases y with
  |none=>exact h0 hy
  |some y=>obtain⟨x,pre,post⟩:=y;exact h1 x pre post hy
inductive CurIn(K:KT)(it:Nat)(x:K.α×Value):List HProp→Prop
 |here {m:Nat} {l rem:List (K.α×Value)} {L:List HProp}:CurIn K it x (rangeK K it m l rem (some x)::L)
 |there {H:HProp} {L:List HProp} (h:CurIn K it x L):CurIn K it x (H::L)
theorem a_entry [NoT nb]{K:KT}{x:Operand}{it:Nat}{y:K.α×Value}(hx:ev ρ x= .pointer (some ⟨it,0,none⟩))(hc:CurIn K it y Ls)(hd:Nat.blt d X.nt=true)
  (h:OpsL X ops nb N (i+1) os Ls ds (upd ρ d (.tuple #[K.enc y.1,y.2])) L):Op1 X ops nb N i (some d) (.entry x) ty os Ls ds ρ L:=by
 refine op_quiet (fun _ e=>by cases e) (fun _ _ _=>by simp[qk]) (fun x hx=>by cases hx;exact hd) ?_ h
 intro pos after gd w hw
 have hs:=(hw.resolve_left (by simp[qk])).heap
 have key:∀ {L:List HProp},CurIn K it y L→∀ {f:Frag},f.le (fun b=>w.heap[b]?)→SatL L f→(Instr.entry (.pointer (some ⟨it,0,none⟩))).run X.P w= .ok (.tuple #[K.enc y.1,y.2]) w:=by
  intro L hc
  induction hc with
  |here=>
   rintro f hf ⟨h1,_,_,l1,_,⟨es,clock,seen,e1,k,e2,_,hcur⟩,_⟩
   obtain⟨e,he,s0,rfl,hk,hv⟩:=hcur y rfl
   rw[← hk,← hv]
   exact run_entry_at (P:=X.P) w it _ clock s0 es clock e (hf _ _ (l1 _ _ e2)) (hf _ _ (l1 _ _ e1)) he k.bnd
  |there _ ih=>
   rintro f hf ⟨_,h2,_,_,l2,_,hL⟩
   exact ih (l2.trans hf) hL
 simp only[execOp,hx,Sem.run_bind,key hc (Frag.le.refl _) hs,Result.andThen_ok,Sem.run_pure]
theorem a_max{at_:Array TypeId}{x y:Operand}{k k':IntKind}{a b:Int}(hx:ev ρ x= .int k a)(hy:ev ρ y= .int k' b)(hd:Nat.blt d X.nt=true)
  (h:OpsL X ops nb N (i+1) os Ls ds (upd ρ d (.int k (if b>a then b else a))) L):Op1 X ops nb N i (some d) (.call {callee:=.builtin .max,args:= #[x,y],argTypes:=at_}) ty os Ls ds ρ L:=by
 (refine op_pure1 (fun _ e=>by cases e) (fun _ _ _=>by simp[qk]) hd ?_ h;intro pos after gd w)
 simp[execOp,resolve,invoke,builtin,hx,hy,Builtin.max_,Builtin.max2]
theorem a_min{at_:Array TypeId}{x y:Operand}{k k':IntKind}{a b:Int}(hx:ev ρ x= .int k a)(hy:ev ρ y= .int k' b)(hd:Nat.blt d X.nt=true)
  (h:OpsL X ops nb N (i+1) os Ls ds (upd ρ d (.int k (if b<a then b else a))) L):Op1 X ops nb N i (some d) (.call {callee:=.builtin .min,args:= #[x,y],argTypes:=at_}) ty os Ls ds ρ L:=by
 (refine op_pure1 (fun _ e=>by cases e) (fun _ _ _=>by simp[qk]) hd ?_ h;intro pos after gd w)
 simp[execOp,resolve,invoke,builtin,hx,hy,Builtin.min_,Builtin.min2]
theorem run_sliceBound{P:Program}{w:World}{k:IntKind}{a:Int}{n:Nat}{c:BoundsCode}(h0:0≤a)(h1:a≤n):(Instr.sliceBound (.int k a) n c).run P w= .ok a.toNat w:=by
 simp[Instr.sliceBound,asIntOf,h0,h1]
theorem a_slice_lo{xt:TypeId}[I:Ty X.P xt .string]{x y:Operand}{s:ByteArray}{k:IntKind}{a:Int}(hx:ev ρ x= .string s)(hy:ev ρ y= .int k a)(h0:0≤a∧a≤(s.size:Int))(hd:Nat.blt d X.nt=true)
  (h:OpsL X ops nb N (i+1) os Ls ds (upd ρ d (.string (s.extract a.toNat s.size))) L):Op1 X ops nb N i (some d) (.slice xt x (some y) none none) ty os Ls ds ρ L:=by
 (refine op_pure1 (fun _ e=>by cases e) (fun _ _ _=>by simp[qk]) hd ?_ h;intro pos after gd w)
 simp[execOp,hx,hy,Instr.sliceAt,Instr.slice,I.run_underlying,Instr.sliceBounds,run_sliceBound h0.1 h0.2]
theorem a_slice_hi{xt:TypeId}[I:Ty X.P xt .string]{x y:Operand}{s:ByteArray}{k:IntKind}{a:Int}(hx:ev ρ x= .string s)(hy:ev ρ y= .int k a)(h0:0≤a∧a≤(s.size:Int))(hd:Nat.blt d X.nt=true)
  (h:OpsL X ops nb N (i+1) os Ls ds (upd ρ d (.string (s.extract 0 a.toNat))) L):Op1 X ops nb N i (some d) (.slice xt x none (some y) none) ty os Ls ds ρ L:=by
 (refine op_pure1 (fun _ e=>by cases e) (fun _ _ _=>by simp[qk]) hd ?_ h;intro pos after gd w)
 simp[execOp,hx,hy,Instr.sliceAt,Instr.slice,I.run_underlying,Instr.sliceBounds,run_sliceBound h0.1 h0.2]
theorem a_slice_both{xt:TypeId}[I:Ty X.P xt .string]{x y z:Operand}{s:ByteArray}{k k':IntKind}{a b:Int}(hx:ev ρ x= .string s)(hy:ev ρ y= .int k a)(hz:ev ρ z= .int k' b)(h0:0≤a∧a≤b∧b≤(s.size:Int))(hd:Nat.blt d X.nt=true)
  (h:OpsL X ops nb N (i+1) os Ls ds (upd ρ d (.string (s.extract a.toNat b.toNat))) L):Op1 X ops nb N i (some d) (.slice xt x (some y) (some z) none) ty os Ls ds ρ L:=by
 (refine op_pure1 (fun _ e=>by cases e) (fun _ _ _=>by simp[qk]) hd ?_ h;intro pos after gd w)
 have hb:(Instr.sliceBound (.int k' b) s.size .sliceAlen).run X.P w= .ok b.toNat w:=run_sliceBound (by omega) h0.2.2
 have ha:(Instr.sliceBound (.int k a) b.toNat .sliceB).run X.P w= .ok a.toNat w:=run_sliceBound h0.1 (by omega)
 simp[execOp,hx,hy,hz,Instr.sliceAt,Instr.slice,I.run_underlying,Instr.sliceBounds,hb,ha]
theorem a_slice_view{xt e n by_:Nat}{zs:List Value}[I:Sl X.P xt e n by_ zs]{x y:Operand}{p:Option Addr}{len cap:Nat}{k:IntKind}{a:Int}{m:Nat}(hx:ev ρ x= .slice p len cap)(hy:ev ρ y= .int k a)(ha:a=(m:Int))(h0:m≤cap)(hp:∀ q,p=some q→q.spot=none)(hd:Nat.blt d X.nt=true)
  (h:OpsL X ops nb N (i+1) os Ls ds (upd ρ d (.slice p m cap)) L):Op1 X ops nb N i (some d) (.slice xt x none (some y) none) ty os Ls ds ρ L:=by
 subst ha
 (refine op_pure1 (fun _ e=>by cases e) (fun _ _ _=>by simp[qk]) hd ?_ h;intro pos after gd w)
 obtain⟨ht,kk,z,hk,hkz,hsz,_,_⟩:=I.get
 have hb:(Instr.sliceBound (.int k (m:Int)) cap .sliceAcap).run X.P w= .ok m w:=by have:=run_sliceBound (P:=X.P) (w:=w) (k:=k) (a:=(m:Int)) (n:=cap) (c:=.sliceAcap) (by omega) (by omega);simpa using this
 simp[execOp,hx,hy,Instr.sliceAt,Instr.slice,run_underlying_of ht,Instr.sliceBounds,hb,sizeOf,typeInfo,hk]
 intro _
 cases p with
 |none=>rfl
 |some q=>
  obtain⟨b,o,sp⟩:=q
  have:=hp _ rfl
  dsimp only at this
  subst this
  rw[Option.map_some,add_plain,Nat.add_zero]
theorem Vw.take{H:HProp}{n:Nat}{p:Option Addr}{len cap:Nat}{xs:List (List Value)}(v:Vw H n (.slice p len cap) xs){k:Nat}(hk:k≤len):Vw H n (.slice p k cap) (xs.take k):=by
 intro h hh
 obtain⟨g,p',cap',h1,h2,h3,h4⟩:=v h hh
 simp only[Value.slice.injEq]at h1
 obtain⟨rfl,rfl,rfl⟩:=h1
 refine⟨fun x hx=>g x (List.mem_of_mem_take hx),p,cap,by rw[List.length_take];congr 1;omega,?_,fun hp=>by rw[h3 hp];simp,fun b o hp hx=>?_⟩
 ·rcases h2 with h2|h2
  ·exact .inl (by rw[h2];simp)
  ·exact .inr h2
 ·obtain⟨cs,T,fr,hb,hc⟩:=h4 b o hp (fun e=>hx (by rw[e];simp))
  refine⟨cs,T,fr,hb,fun j u hj=>hc j u ?_⟩
  have e:xs=xs.take k++xs.drop k:=(List.take_append_drop k xs).symm
  rw[e,List.flatten_append,List.getElem?_append_left (List.getElem?_eq_some_iff.1 hj).1]
  exact hj
theorem a_convert_int{s t:TypeId}{ds':TypeDesc}{k:IntKind}[I:Ty X.P s ds'][J:Ty X.P t (.int k)]{x:Operand}{k':IntKind}{a:Int}{v:Int}(hx:ev ρ x= .int k' a)(hc:(X.cv.contains s||X.cv.contains t)=false)(hv:k.wrap a=v)(hd:Nat.blt d X.nt=true)
  (h:OpsL X ops nb N (i+1) os Ls ds (upd ρ d (.int k v)) L):Op1 X ops nb N i (some d) (.convert s t x) ty os Ls ds ρ L:=by
 subst hv
 (refine op_pure1 (fun _ e=>by cases e) (fun _ _ _=>by simp only[qk,hc];simp) hd ?_ h;intro pos after gd w)
 simp[execOp,hx,convert,I.run_underlying,J.run_underlying,Conv.intToInt]
def byteL(s:ByteArray):List (List Value):=s.data.toList.map fun b=>[.int .u8 b.toNat]
def bytesR(e:TypeId)(v:Value)(s:ByteArray):HProp:=fun h=>∃ b cap rest k,v= .slice (some ⟨b,0,none⟩) s.size cap∧s.size≤k∧h b=some (.cells (s.data.toList.map (fun b=>Value.int .u8 b.toNat)++rest).toArray e (k,k+1))
theorem byteL_flat(s:ByteArray):(byteL s).flatten=s.data.toList.map (fun b=>Value.int .u8 b.toNat):=by
 unfold byteL
 induction s.data.toList with
 |nil=>rfl
 |cons x l ih=>simp[ih]
theorem byteL_len(s:ByteArray):(byteL s).length=s.size:=by simp[byteL]
theorem Vw.bytes{e:TypeId}{v:Value}{s:ByteArray}:Vw (bytesR e v s) 1 v (byteL s):=by
 rintro h ⟨b,cap,rest,k,rfl,hk,hb⟩
 refine⟨fun x hx=>?_,some ⟨b,0,none⟩,cap,by rw[byteL_len],.inr ⟨b,0,rfl⟩,(fun e=>by cases e),fun b' o' hp hx=>?_⟩
 ·obtain⟨y,_,rfl⟩:=List.mem_map.1 hx
  exact⟨rfl,rfl⟩
 ·cases hp
  refine⟨_,_,_,hb,fun j u hj=>?_⟩
  rw[byteL_flat]at hj
  rw[Nat.zero_add,List.getElem?_toArray,List.getElem?_append_left (List.getElem?_eq_some_iff.1 hj).1]
  exact hj
theorem s_convert_bytes [NoT nb]{s t e:TypeId}[I:Ty X.P s .string][J:Ty X.P t (.slice e)][K:Ty X.P e (.int .u8)]{x:Operand}{a:ByteArray}(hx:ev ρ x= .string a)(hc:(X.cv.contains s||X.cv.contains t)=true)(hd:Nat.blt d X.nt=true)(hb:nb.contains i=false)
  (h:∀ b cap,OpsL X ops nb N (i+1) os (bytesR e (.slice (some ⟨b,0,none⟩) a.size cap) a::L) ds (upd ρ d (.slice (some ⟨b,0,none⟩) a.size cap)) (bytesR e (.slice (some ⟨b,0,none⟩) a.size cap) a::L)):Op1 X ops nb N i (some d) (.convert s t x) ty os Ls ds ρ L:=by
 refine op_eff (Y:=Nat×Nat) (φ:=fun _=>True) (v:=fun y=>.slice (some ⟨y.1,0,none⟩) a.size y.2) (L':=fun y=>bytesR e (.slice (some ⟨y.1,0,none⟩) a.size y.2) a::L) ⟨(fun _ e=>by cases e),fun pos after gd=>⟨by simp only[qk,hc];simp,fun w hs=>?_⟩⟩ (fun _ e=>by cases e;exact hd) hb fun y _=>h y.1 y.2
 unfold OpVal
 simp only[execOp,hx,Sem.run_bind,run_bytes_of_string (P:=X.P) w s t e a I.und J.und K.und,Result.andThen_ok,Sem.run_pure]
 refine⟨(w.heap.size,grownCap w a.size 0 e),trivial,rfl,?_⟩
 refine(hs.drew.alloc _).map fun _ hh=>hh.headMono fun f hp=>?_
 refine⟨w.heap.size,_,List.replicate (grownCap w a.size 0 e-a.size) (.int .u8 0),(bytesRow a (grownCap w a.size 0 e)).size,rfl,?_,?_⟩
 ·simp[bytesRow]
 ·have e1:((a.data.toList.map fun b:UInt8=>Value.int .u8 b.toNat)++List.replicate (grownCap w a.size 0 e-a.size) (Value.int .u8 0)).toArray=bytesRow a (grownCap w a.size 0 e):=by
   apply Array.ext';simp[bytesRow]
  rw[e1]
  exact hp
theorem s_buildSlice_nb [NoT nb]{t e n by_ len:Nat}{zs:List Value}[I:Sl X.P t e n by_ zs]{parts:Array (Nat×Operand)}{ps:List (Nat×Value)}{xs:List (List Value)}
  (hp:EvP ρ parts.toList ps)(hxs:ps.map (fun x=>x.2.cells.toList)=xs)(hk:seqB 0 ps=true)(hl:Nat.beq xs.length len=true)(hg:goodB n xs=true)(hs:Nat.ble (len*n) 16777216=true)(h0:Nat.beq (len*n) 0=false)(hd:Nat.blt d X.nt=true)(hk':∀ h,SatL L h→SatL Ls h)
  (h:∀ v',v'.oneCell'=true→OpsL X ops nb N (i+1) os Ls ds (upd ρ d v') (row e n v' xs::L)):Op1 X ops nb N i (some d) (.buildSlice t len parts) ty os Ls ds ρ L:=
 op_eff_nb (e_buildSlice hp (fill_seq hxs hk (Nat.eq_of_beq_eq_true hl) (good_of hg) (by intro h;rw[h]at h0;cases h0)) (Nat.eq_of_beq_eq_true hl) (good_of hg) hs h0) (fun _ e=>by cases e;exact hd) (fun _ _ _ s=>hk' _ s.tail) h
theorem a_map_nil{op:BinOp}{xt yt k e:Nat}[I:Mp X.P xt k e]{x y:Operand}{p:Option Nat}{v:Bool}(hx:ev ρ x= .map p)(hy:ev ρ y= .map none)(ho:isEq op=true)(hv:nilB op p.isNone=v)(hd:Nat.blt d X.nt=true)
  (h:OpsL X ops nb N (i+1) os Ls ds (upd ρ d (.bool v)) L):Op1 X ops nb N i (some d) (.binOp op xt x y yt) ty os Ls ds ρ L:=by
 refine a_eq hx hy ho (fun op' w=>by cases op'<;>cases p<;>rfl) (by cases p<;>rfl) (by cases p<;>rfl) (t:=p.isNone) (fun w _=>?_) hv hd h
 rw[equal_unfold,Op.equalIn]
 simp only[Sem.run_bind,run_underlying_of I.und,Result.andThen_ok]
 cases p<;>rfl
theorem a_func_nil{op:BinOp}{xt yt:Nat}{ats rts:Array TypeId}{vr:Bool}[I:Ty X.P xt (.func ats rts vr)]{x y:Operand}{f:Fn}{fs cs:Array Value}{v:Bool}(hx:ev ρ x= .func f fs cs)(hy:ev ρ y= .nilFunc)(ho:isEq op=true)(hv:nilB op false=v)(hd:Nat.blt d X.nt=true)
  (h:OpsL X ops nb N (i+1) os Ls ds (upd ρ d (.bool v)) L):Op1 X ops nb N i (some d) (.binOp op xt x y yt) ty os Ls ds ρ L:=by
 refine a_eq hx hy ho (fun op' w=>by cases op'<;>rfl) rfl rfl (t:=false) (fun w _=>?_) hv hd h
 rw[equal_unfold,Op.equalIn]
 simp only[Sem.run_bind,I.run_underlying,Result.andThen_ok]
 rfl
theorem a_nilfunc_nil{op:BinOp}{xt yt:Nat}{ats rts:Array TypeId}{vr:Bool}[I:Ty X.P xt (.func ats rts vr)]{x y:Operand}{v:Bool}(hx:ev ρ x= .nilFunc)(hy:ev ρ y= .nilFunc)(ho:isEq op=true)(hv:nilB op true=v)(hd:Nat.blt d X.nt=true)
  (h:OpsL X ops nb N (i+1) os Ls ds (upd ρ d (.bool v)) L):Op1 X ops nb N i (some d) (.binOp op xt x y yt) ty os Ls ds ρ L:=by
 refine a_eq hx hy ho (fun op' w=>by cases op'<;>rfl) rfl rfl (t:=true) (fun w _=>?_) hv hd h
 rw[equal_unfold,Op.equalIn]
 simp only[Sem.run_bind,I.run_underlying,Result.andThen_ok]
 rfl
theorem a_slice_nil{op:BinOp}{xt yt e:Nat}[I:Ty X.P xt (.slice e)]{x y:Operand}{p:Option Addr}{l c:Nat}{v:Bool}(hx:ev ρ x= .slice p l c)(hy:ev ρ y= .slice none 0 0)(ho:isEq op=true)(hv:nilB op p.isNone=v)(hd:Nat.blt d X.nt=true)
  (h:OpsL X ops nb N (i+1) os Ls ds (upd ρ d (.bool v)) L):Op1 X ops nb N i (some d) (.binOp op xt x y yt) ty os Ls ds ρ L:=by
 refine a_eq hx hy ho (fun op' w=>by cases op'<;>cases p<;>rfl) (by cases p<;>rfl) (by cases p<;>rfl) (t:=p.isNone) (fun w _=>?_) hv hd h
 rw[equal_unfold,Op.equalIn]
 simp only[Sem.run_bind,I.run_underlying,Result.andThen_ok]
 cases p<;>rfl
theorem a_makeIface{t:TypeId}{dd:TypeDesc}[I:Ty X.P t dd]{x:Operand}{v:Value}(hx:ev ρ x=v)(hi:(match dd with| .interface _=>true|_=>false)=false)(hd:Nat.blt d X.nt=true)
  (h:OpsL X ops nb N (i+1) os Ls ds (upd ρ d (.iface t v)) L):Op1 X ops nb N i (some d) (.makeInterface t x) ty os Ls ds ρ L:=by
 subst hx
 (refine op_pure1 (fun _ e=>by cases e) (fun _ _ _=>by simp[qk]) hd ?_ h;intro pos after gd w)
 simp only[execOp,Instr.makeInterface,Sem.run_bind,I.run_underlying,Result.andThen_ok]
 cases dd<;>first|rfl|cases hi
theorem s_assert [NoT nb]{xt t:TypeId}{dd:TypeDesc}[I:Ty X.P t dd]{x:Operand}{v:Value}(hx:ev ρ x= .iface t v)(hi:(match dd with| .interface _=>true|_=>false)=false)(hd:Nat.blt d X.nt=true)(hb:nb.contains i=false)
  (h:OpsL X ops nb N (i+1) os L ds (upd ρ d v) L):Op1 X ops nb N i (some d) (.typeAssert x xt t false) ty os Ls ds ρ L:=by
 refine op_eff (Y:=Unit) (φ:=fun _=>True) (v:=fun _=>v) (L':=fun _=>L) ⟨(fun _ e=>by cases e),fun pos after gd=>⟨rfl,fun w hs=>?_⟩⟩ (fun _ e=>by cases e;exact hd) hb fun _ _=>h
 unfold OpVal
 have:(Instr.typeAssert (.iface t v) xt t false).run X.P w= .ok v w:=by
  simp only[Instr.typeAssert,Sem.run_bind,I.run_underlying,Result.andThen_ok]
  cases dd<;>first|(simp;done)|cases hi
 simp only[execOp,hx,Sem.run_bind,this,Result.andThen_ok,Sem.run_pure]
 exact⟨(),trivial,trivial,hs⟩
theorem vspec_fn{P:Program}{f:FuncId}[K:FnI P f]{args:List Value}{pre:List HProp}{Y:Type}{φ:Y→Prop}{ret:Y→Value}{post:Y→List HProp}(s:FSpec P f args pre Y φ ret post):VSpec P (.func (.func f) #[] #[]) args pre Y φ ret post:=
 vspec_func (cap:=[]) (by rw[List.append_nil];exact s)
theorem satL_pre:∀ {pre R:List HProp} {h:Frag},SatL (pre++R) h→SatL pre h
 | [],_,_,_=>trivial
 |_::_,_,_,s=>SatL.consMono s fun _ k=>satL_pre k
theorem takePre{L pre R:List HProp}(t:Take L pre R):∀ h,SatL L h→SatL pre h:=fun _ s=>satL_pre (t.out s)
theorem ok_drawL{X:Cx}{ops:Array Oper}{ds:List Deferred}{ρ:Regs}{L:List HProp}{Q:Exit→Act→World→Prop}(nb:List Nat)(Ls:List HProp){R:List HProp}{id:Nat}{cv:List TypeId}(ht:Take L Ls R)(hm:X.P.follows .mixedOrders=true)(hcv:X.cv=cv)(hok:regionOk ops (kdf cv ops) nb=true)
 (h:OpsL X ops ⟨nb,[],[]⟩ (Q .normal) 0 ops.toList Ls ds ρ L):Ok X (.region id ops true) ds ρ L Q:=ok_draw nb Ls hm hcv hok (takePre ht) h
theorem vspec_ex{P:Program}{fv:Value}{args:List Value}{α:Type}{M:α→List HProp}{pre:List HProp}{Y:Type}{φ:Y→Prop}{ret:Y→Value}{post:Y→List HProp}(h:∀ a,VSpec P fv args (M a++pre) Y φ ret post):VSpec P fv args (exP M::pre) Y φ ret post:=by
 intro w0 w R hs
 obtain⟨h1,h2,ha,l1,l2,⟨x,hx⟩,hL⟩:=hs.heap
 refine h x w0 w R ⟨hs.os,hs.tape,hs.output,hs.size,?_⟩
 have:=SatL.flat (M:=M x) (L:=pre++R) ⟨h1,h2,ha,l1,l2,hx,hL⟩
 rw[List.append_assoc];exact this
theorem fspec_ex{P:Program}{f:FuncId}{args:List Value}{α:Type}{M:α→List HProp}{pre:List HProp}{Y:Type}{φ:Y→Prop}{ret:Y→Value}{post:Y→List HProp}(h:∀ a,FSpec P f args (M a++pre) Y φ ret post):FSpec P f args (exP M::pre) Y φ ret post:=by
 intro w0 w R hs
 obtain⟨h1,h2,ha,l1,l2,⟨x,hx⟩,hL⟩:=hs.heap
 refine h x w0 w R ⟨hs.os,hs.tape,hs.output,hs.size,?_⟩
 have:=SatL.flat (M:=M x) (L:=pre++R) ⟨h1,h2,ha,l1,l2,hx,hL⟩
 rw[List.append_assoc];exact this
theorem vspec_clone{P:Program}{f:FuncId}(hf:∀ args w,(callFunc f args).run P w=((Extern.MapsClone.clone args).run P w).andThen fun v w'=>.ok (.value v) w')(K:KT)(t:TypeId)(m:Nat)(l:List (K.α×Value)):
  VSpec P (.func (.func f) #[] #[]) [.iface t (.map (some m))] [mapK K m l] Nat (fun _=>True) (fun b=>.iface t (.map (some b))) (fun b=>[mapK K b l,mapK K m l]):=by
 intro w0 w R hs
 obtain⟨es,clock,hb,hk,hset⟩:=hs.mapObj
 have hrun:(Extern.MapsClone.clone #[.iface t (.map (some m))]).run P w= .ok (.iface t (.map (some w.heap.size))) (w.alloc (.map es clock)):=by
  show(getObj m >>= fun o=>(match o with| .map entries clock=>(do pure (Value.iface t (.map (some (← newObj (.map entries clock))))))|_=>stuck "maps.clone: a map expected" :Sem Value)).run P w=_
  rw[Sem.run_bind,MapKept.run_getObj_map (P:=P) hb]
  simp only[Result.andThen_ok,Sem.run_bind,run_newObj,Sem.run_pure]
  rfl
 unfold Runs callV
 simp only[Deferred.ofValue,invoke,Sem.run_bind,Sem.run_pure,Result.andThen_ok,Array.empty_append,Array.append_empty,hf,hrun]
 refine⟨w.heap.size,trivial,rfl,(hs.alloc (.map es clock)).map fun _ hh=>hh.headMono fun _ hp=>⟨es,clock,hp,hk⟩⟩
end
end Go.Fx
namespace Go.Fx
open Go
section
variable{X:Cx}{ops:Array Oper}{nb:NB}{N:Act→World→Prop}{i:Nat}{os:List Oper}{Ls:List HProp}{ds:List Deferred}{ρ:Regs}{L:List HProp}{ty:TypeId}{d:Nat}
theorem madeCells_one(z:Value)(n:Nat):madeCells #[z] n=Array.replicate n z:=by
 apply Array.ext
 ·simp[madeCells]
 ·intro k h1 h2
  have hk:k<n:=by simpa using h2
  have hz:((#[z]:Array Value)[k % 1]!)=z:=by rw[Nat.mod_one];rfl
  simp[madeCells]
  rw[Nat.mod_one];rfl
theorem s_makeSlice1 [NoT nb]{t e by_:Nat}{z:Value}[I:Sl X.P t e 1 by_ [z]]{x y:Operand}{k k':IntKind}{a:Int}{n:Nat}(hx:ev ρ x= .int k a)(hy:ev ρ y= .int k' a)(ha:a=(n:Int))(h1:by_*n≤281474976710656)(hz1:z.oneCell'=true)(h2:n≤9223372036854775807)(hd:Nat.blt d X.nt=true)(hb:nb.contains i=false)
  (h:∀ b,OpsL X ops nb N (i+1) os (row e 1 (.slice (some ⟨b,0,none⟩) n n) (List.replicate n [z])::L) ds (upd ρ d (.slice (some ⟨b,0,none⟩) n n)) (row e 1 (.slice (some ⟨b,0,none⟩) n n) (List.replicate n [z])::L)):Op1 X ops nb N i (some d) (.makeSlice t x y) ty os Ls ds ρ L:=by
 subst ha
 refine op_eff (Y:=Nat) (φ:=fun _=>True) (v:=fun b=>.slice (some ⟨b,0,none⟩) n n) (L':=fun b=>row e 1 (.slice (some ⟨b,0,none⟩) n n) (List.replicate n [z])::L) ⟨(fun _ e=>by cases e),fun pos after gd=>⟨rfl,fun w hs=>?_⟩⟩ (fun _ e=>by cases e;exact hd) hb fun b _=>h b
 obtain⟨ht,kk,zz,hk,hkz,hsz,hby,hzc⟩:=I.get
 have hzz:zz.cells=#[z]:=by apply Array.ext';rw[hzc]
 have hrun:=run_make (P:=X.P) (w:=w) t e kk zz ht hk hkz k k' (n:Int) (n:Int) (by omega) (by omega) (by rw[hby];omega) (by omega)
 rw[hsz,hzz,Nat.mul_one,madeCells_one]at hrun
 simp only[Int.toNat_natCast]at hrun
 unfold OpVal
 simp only[execOp,hx,hy,Sem.run_bind,hrun,Result.andThen_ok,Sem.run_pure]
 refine⟨w.heap.size,trivial,rfl,(hs.alloc _).map fun _ hh=>hh.headMono fun f hp=>⟨?_,.inr ⟨w.heap.size,n,[],by simp,by simp,?_⟩⟩⟩
 ·intro u hu
  rw[List.eq_of_mem_replicate hu]
  exact⟨rfl,by simp[oneCells,hz1]⟩
 ·have e1:((List.replicate n [z]).flatten++[]).toArray=Array.replicate n z:=by
   apply Array.ext';simp[List.flatten_replicate_singleton]
  rw[e1];exact hp
theorem s_storeRow1 [NoT nb]{t:TypeId}[I:Sz X.P t 1]{a x:Operand}{b m len cap e:Nat}{v:Value}{xs:List (List Value)}{R:List HProp}
  (hx:ev ρ a= .pointer (some ⟨b,slot 0 1 m 0,none⟩))(hv:ev ρ x=v)(hc:v.cells.toList=[v])(h1:v.oneCell'=true)(hsel:Sel L (row e 1 (.slice (some ⟨b,0,none⟩) len cap) xs) R)(hm:m<len)(hb:nb.contains i=false)
  (h:OpsL X ops nb N (i+1) os (row e 1 (.slice (some ⟨b,0,none⟩) len cap) (xs.set m [v])::R) ds ρ (row e 1 (.slice (some ⟨b,0,none⟩) len cap) (xs.set m [v])::R)):Op1 X ops nb N i none (.store t a x) ty os Ls ds ρ L:=by
 refine op_eff (Y:=Unit) (φ:=fun _=>True) (v:=fun _=>undef) (L':=fun _=>row e 1 (.slice (some ⟨b,0,none⟩) len cap) (xs.set m [v])::R) ?_ (fun _ e=>by cases e) hb fun _ _=>h
 subst hv
 refine eff_intro1 (fun _ e=>by cases e) (fun _ _ _=>rfl) fun pos after gd w hs=>?_
 have hs1:=hs.sel hsel
 obtain⟨f1,f2,ha,l1,l2,⟨g,hrow⟩,hR⟩:=hs1.heap
 rcases hrow with⟨hn,_⟩|⟨b',cap',rest,hv',hl,hbk⟩
 ·cases hn
 simp only[Value.slice.injEq,Option.some.injEq,Addr.mk.injEq,and_true]at hv'
 obtain⟨hbb,hlen,hcc⟩:=hv'
 subst hbb hlen hcc
 have hs2:Sats X.w0 w (pts b (.cells (xs.flatten++rest).toArray e)::R):=⟨hs1.os,hs1.tape,hs1.output,hs1.size,⟨f1,f2,ha,l1,l2,hbk,hR⟩⟩
 have hfl:=g.flatten_length
 have hslot:slot 0 1 m 0=m:=by unfold slot;omega
 rw[hslot]at hx
 obtain⟨w',h2,h3⟩:=storeCells_list (P:=X.P) [ev ρ x] 0 m (xs.flatten++rest) R Sel.here hs2 (by simpa using h1) (by rw[List.length_append,hfl,List.length_singleton];omega)
 have hsz:(ev ρ x).cells.size=1:=by have:=congrArg List.length hc;simpa using this
 unfold OpVal
 simp only[execOp,Instr.storeAt,Instr.sureAddr,hx,storeVar,Sem.run_bind,Sem.run_pure,Result.andThen_ok,I.run_sizeOf,hsz,ne_eq,not_true_eq_false,if_false,hc,h2]
 refine⟨trivial,h3.map fun _ hh=>hh.headMono fun f hp=>⟨?_,.inr ⟨b,cap,rest,by rw[List.length_set],?_,?_⟩⟩⟩
 ·intro u hu
  rcases List.mem_or_eq_of_mem_set hu with hu|rfl
  ·exact g u hu
  ·exact⟨rfl,by simp[oneCells,h1]⟩
 ·have h4:(xs.set m [ev ρ x]).flatten.length=xs.flatten.length:=by
   have:good 1 (xs.set m [ev ρ x]):=by
    intro u hu
    rcases List.mem_or_eq_of_mem_set hu with hu|rfl
    ·exact g u hu
    ·exact⟨rfl,by simp[oneCells,h1]⟩
   rw[this.flatten_length,hfl,List.length_set]
  rw[List.length_append,h4,← List.length_append];exact hl
 ·have e1:(xs.set m [ev ρ x]).flatten++rest=(xs.flatten++rest).take (m+0)++[ev ρ x]++(xs.flatten++rest).drop (m+0+ [ev ρ x].length):=by
   have key:∀ (ys:List (List Value)) (m:Nat),good 1 ys→m<ys.length→(ys.set m [ev ρ x]).flatten++rest=(ys.flatten++rest).take m++[ev ρ x]++(ys.flatten++rest).drop (m+1):=by
    intro ys
    induction ys with
    |nil=>intro m _ h;simp at h
    |cons y ys ih=>
     intro m gy h
     have hy:=(gy y (List.mem_cons_self ..)).1
     match y,hy with
     | [y0],_=>
      cases m with
      |zero=>simp
      |succ m=>
       have:=ih m (fun u hu=>gy u (List.mem_cons_of_mem _ hu)) (by simpa using h)
       simp only[List.set_cons_succ,List.flatten_cons,List.cons_append,List.nil_append,List.take_succ_cons,List.drop_succ_cons]
       rw[this]
   simpa using key xs m g hm
  rw[e1];exact hp
theorem s_bytes_string [NoT nb]{s t e:TypeId}[I:Ty X.P s (.slice e)][J:Ty X.P t .string][K:Ty X.P e (.int .u8)]{x:Operand}{v:Value}{l:List UInt8}(hx:ev ρ x=v)(hc:(X.cv.contains s||X.cv.contains t)=true)
  (hr:VwIn L 1 v (l.map fun b=>[.int .u8 (b.toNat:Int)]))(hd:Nat.blt d X.nt=true)(hb:nb.contains i=false)
  (h:OpsL X ops nb N (i+1) os L ds (upd ρ d (.string ⟨l.toArray⟩)) L):Op1 X ops nb N i (some d) (.convert s t x) ty os Ls ds ρ L:=by
 refine op_eff (Y:=Unit) (φ:=fun _=>True) (v:=fun _=>.string ⟨l.toArray⟩) (L':=fun _=>L) ⟨(fun _ e=>by cases e),fun pos after gd=>⟨by simp only[qk,hc];simp,fun w hs=>?_⟩⟩ (fun _ e=>by cases e;exact hd) hb fun _ _=>h
 obtain⟨g,p,cap,hv,h2,h2',h3⟩:=hr.satL hs.heap
 have hlen:(l.map fun b=>([.int .u8 (b.toNat:Int)]:List Value)).length=l.length:=by simp
 rw[hlen]at hv
 have hrun:(convert s t (.slice p l.length cap)).run X.P w= .ok (.string ⟨l.toArray⟩) w:=by
  cases p with
  |none=>
   have hl:l=[]:=by simpa using h2' rfl
   subst hl
   rw[run_convert_bytes_string w s t e none _ _ I.und K.und J.und]
   rfl
  |some a=>
   rcases h2 with hnil|⟨b,o,hbo⟩
   ·have hl:l=[]:=by simpa using hnil
    subst hl
    exact run_convert_bytes_back w s t e a cap [] I.und K.und J.und (fun j hj=>by simp at hj)
   ·cases hbo
    refine run_convert_bytes_back w s t e ⟨b,o,none⟩ cap l I.und K.und J.und (fun j hj=>?_)
    have hne:(l.map fun b=>([.int .u8 (b.toNat:Int)]:List Value))≠[]:=by intro h;rw[List.map_eq_nil_iff]at h;subst h;simp at hj
    obtain⟨cs,T,fr,hbk,hcs⟩:=h3 b o rfl hne
    have hfl:(l.map fun b=>([.int .u8 (b.toNat:Int)]:List Value)).flatten=l.map fun b=>Value.int .u8 (b.toNat:Int):=by
     clear hne hcs hj g h3 h2' hlen h hr hv hx
     induction l with
     |nil=>rfl
     |cons y l ih=>simp[ih]
    rw[add_plain]
    refine cell_of_heap hbk (hcs j _ ?_)
    rw[hfl];simp[hj]
 unfold OpVal
 simp only[execOp,hx,hv,Sem.run_bind,hrun,Result.andThen_ok,Sem.run_pure]
 exact⟨(),trivial,trivial,hs⟩
theorem a_index_str{xt:TypeId}[I:Ty X.P xt .string]{x y:Operand}{s:ByteArray}{k:IntKind}{a:Int}{m:Nat}{c:UInt8}(hx:ev ρ x= .string s)(hy:ev ρ y= .int k a)(ha:a=(m:Int))(hc:s.data.toList[m]? =some c)(hd:Nat.blt d X.nt=true)
  (h:OpsL X ops nb N (i+1) os Ls ds (upd ρ d (.int .u8 (c.toNat:Int))) L):Op1 X ops nb N i (some d) (.index xt x y) ty os Ls ds ρ L:=by
 subst ha
 (refine op_pure1 (fun _ e=>by cases e) (fun _ _ _=>by simp[qk]) hd ?_ h;intro pos after gd w)
 have h1:s[m]? =some c:=by
  have hlt:=(List.getElem?_eq_some_iff.1 hc).1
  have hlt':m<s.size:=by simpa using hlt
  rw[getElem?_pos s m hlt']
  have:=(List.getElem?_eq_some_iff.1 hc).2
  congr 1
 simp[execOp,hx,hy,Instr.index,I.run_underlying,asIntOf,h1]
class ArI(P:Program)(t:TypeId)(len e n:outParam Nat):Prop where
 und:P.underlying t=some (.array len e)
 size:(P.info? e).map (fun i=>i.size)=some n
theorem a_index_arr{xt len e:Nat}{dd:TypeDesc}[I:ArI X.P xt len e 1][J:Ty X.P e dd]{x y:Operand}{cs:List Value}{k:IntKind}{a:Int}{m:Nat}{v:Value}(hx:ev ρ x= .agg cs.toArray)(hy:ev ρ y= .int k a)(ha:a=(m:Int))(hm:m<len)(hdd:isAggD dd=false)(hc:cs[m]? =some v)(hd:Nat.blt d X.nt=true)
  (h:OpsL X ops nb N (i+1) os Ls ds (upd ρ d v) L):Op1 X ops nb N i (some d) (.index xt x y) ty os Ls ds ρ L:=by
 subst ha
 (refine op_pure1 (fun _ e=>by cases e) (fun _ _ _=>by simp[qk]) hd ?_ h;intro pos after gd w)
 have hs:(sizeOf e).run X.P w= .ok 1 w:=(Sz.mk I.size:Sz X.P e 1).run_sizeOf
 have hp:(part e cs.toArray m).run X.P w= .ok v w:=run_part1 J.und hdd (by simpa using hc)
 simp only[execOp,hx,hy,Instr.index,Sem.run_bind,run_underlying_of I.und,Result.andThen_ok,asIntOf,Sem.run_pure]
 rw[if_pos (by omega)]
 simp only[Sem.run_bind,hs,Result.andThen_ok,Int.toNat_natCast,Nat.mul_one,hp,Sem.run_pure]
theorem a_indexAddr_arr{xt len e:Nat}[I:ArI X.P xt len e 1]{x y:Operand}{b o:Nat}{k:IntKind}{a:Int}{m:Nat}(hx:ev ρ x= .pointer (some ⟨b,o,none⟩))(hy:ev ρ y= .int k a)(ha:a=(m:Int))(hm:m<len)(hd:Nat.blt d X.nt=true)
  (h:OpsL X ops nb N (i+1) os Ls ds (upd ρ d (.pointer (some ⟨b,o+m,none⟩))) L):Op1 X ops nb N i (some d) (.indexAddr xt x y) ty os Ls ds ρ L:=by
 subst ha
 (refine op_pure1 (fun _ e=>by cases e) (fun _ _ _=>by simp[qk]) hd ?_ h;intro pos after gd w)
 have hs:(sizeOf e).run X.P w= .ok 1 w:=(Sz.mk I.size:Sz X.P e 1).run_sizeOf
 have hadd:(⟨b,o,none⟩:Addr).add (m*1)=⟨b,o+m,none⟩:=by rw[add_plain,Nat.mul_one]
 rw[Nat.mul_one]at hadd
 simp[execOp,hx,hy,Instr.indexAt,run_underlying_of I.und,asIntOf,hm,hs,hadd,Instr.sureAddr]
theorem a_build_arr{t len e:Nat}{z:Value}[I:ArI X.P t len e 1][Z:Zr X.P t z]{parts:Array (Nat×Operand)}{ps:List (Nat×Value)}{out:List Value}
  (hp':EvP ρ parts.toList ps)(hk:seqB 0 ps=true)(hz:z.cells.size=ps.length)(h1:(ps.all fun x=>Nat.beq x.2.cells.size 1)=true)(ho:(ps.map fun x=>x.2.cells.toList).flatten=out)(hd:Nat.blt d X.nt=true)
  (h:OpsL X ops nb N (i+1) os Ls ds (upd ρ d (.agg out.toArray)) L):Op1 X ops nb N i (some d) (.build t parts) ty os Ls ds ρ L:=by
 have hp:=hp'.map
 subst hp ho
 (refine op_pure1 (fun _ e=>by cases e) (fun _ _ _=>by simp[qk]) hd ?_ h;intro pos after gd w)
 have e1:(parts.map fun(i,x)=>(i,ev ρ x)).toList=parts.toList.map (fun x=>(x.1,ev ρ x.2)):=by simp
 have hs:(sizeOf e).run X.P w= .ok 1 w:=(Sz.mk I.size:Sz X.P e 1).run_sizeOf
 have hfill:Instr.fill (fun i=>some (i*1,1)) z.cells (parts.toList.map (fun x=>(x.1,ev ρ x.2)))=some ((parts.toList.map (fun x=>(x.1,ev ρ x.2))).map fun x=>x.2.cells.toList).flatten.toArray:=by
  generalize parts.toList.map (fun x=>(x.1,ev ρ x.2))=ps at hk hz h1
  have h1':∀ v∈ps.map (·.2),v.cells.size=1:=by
   intro v hv
   obtain⟨x,hx,rfl⟩:=List.mem_map.1 hv
   exact Nat.eq_of_beq_eq_true (List.all_eq_true.1 h1 x hx)
  have:=Great.fill_whole (by omega:0<1) (ps.map (·.2)) z.cells h1' (by rw[List.length_map,Nat.mul_one];exact hz.symm)
  rw[seqB_eq ps 0 hk]at this
  rw[this,List.flatMap_def,List.map_map]
  rfl
 simp only[execOp,Instr.build,Sem.run_bind,Z.run_zero,Result.andThen_ok,run_underlying_of I.und,hs,e1,hfill,Sem.run_pure]
theorem a_compl{xt:TypeId}{x:Operand}{k:IntKind}{a:Int}(hx:ev ρ x= .int k a)(hd:Nat.blt d X.nt=true)(h:OpsL X ops nb N (i+1) os Ls ds (upd ρ d (.int k (bitsOf .xor k (if k.signed then -1 else k.max) a))) L):
  Op1 X ops nb N i (some d) (.unOp .xor xt x) ty os Ls ds ρ L:=by
 (refine op_pure1 (fun _ e=>by cases e) (fun _ _ _=>by simp[qk]) hd ?_ h;intro pos after gd w);simp[execOp,hx,Op.unary,Op.intBits,bitsOf]
end
end Go.Fx
namespace Go.Fx
open Go Go.ChangeShapes Go.WideShapes Go.ChangeAt Go.RowKit
theorem orig_self(W:World){m:Bool}:Sats ⟨W,m⟩ W [orig W]:=
 ⟨rfl,rfl,rfl,⟨Nat.le_refl _,fun _=>Nat.le_refl _⟩,⟨fun b=>W.heap[b]?,fun _=>none,(fun _ _ _ _ e=>by cases e),Frag.le.refl _,(fun _ _ e=>by cases e),fun _ _=>rfl,trivial⟩⟩
theorem below_of{W W':World}{m:Bool}{L:List HProp}(s:Sats ⟨W,m⟩ W' (orig W::L)):Below W.heap.size W W':=by
 obtain⟨h1,h2,_,l1,_,ho,_⟩:=s.heap
 refine⟨s.os,s.tape,s.output,s.size.1,fun k hk=>?_⟩
 have e:=ho k hk
 have hk':W.heap[k]? =some W.heap[k]:=Array.getElem?_eq_getElem hk
 rw[hk']at e ⊢
 exact l1 _ _ e
theorem calls_true_orig{P:Program}{f:FuncId}{args:List Value}{Y:Type}{φ:Y→Prop}{W:World}(s:FSpec P f args [orig W] Y φ (fun _=>.bool true) (fun _=>[orig W])):
  Calls P f args.toArray W fun e W'=>e= .returned (.bool true)∧Below W.heap.size W W':=by
 refine(s W W [] (orig_self W)).mono ?_
 rintro e W' ⟨y,_,rfl,hs⟩
 exact⟨rfl,below_of hs⟩
theorem below_trodAll{H:Type}{enc:TypeId×Value→H}{P:Program}(hl:laidOutB P=true){W W':World}(hb:Below W.heap.size W W'):∀ {ts:List TypeId} {vs:List Value} {ds:List (DataW H)} {ps:List MemPlace},
  ts.all (fun t=>P.readableRec t&&Nat.blt t P.types.size)=true→DataW.TrodAll enc P W 0 (fun _=>true) true ts vs ds ps→(∀ x∈ps,x.block<W.heap.size)→DataW.TrodAll enc P W' 0 (fun b=>decide (b<W.heap.size)) true ts vs ds ps
 | [],[],[],_,_,h,_=>h
 | [],[],_::_,_,_,h,_=>h.elim
 | [],_::_,_,_,_,h,_=>by cases h
 |_::_,[],_,_,_,h,_=>by cases h
 |_::_,_::_,[],_,_,h,_=>by cases h
 |t::ts,v::vs,d::ds,ps,ht,h,hlt=>by
  obtain⟨p,q,h1,h2,h3⟩:=h
  subst h3
  simp only[List.all_cons,Bool.and_eq_true]at ht
  exact⟨p,q,Below.trod hl ht.1.1 (by simpa using ht.1.2) h1 hb (fun x hx=>hlt x (List.mem_append_left _ hx)),below_trodAll hl hb ht.2 h2 (fun x hx=>hlt x (List.mem_append_right _ hx)),rfl⟩
end Go.Fx
namespace Go.Fx
open Go Go.ChangeShapes Go.WideShapes Go.ChangeAt Go.RowKit
variable{n:Nat}{H:Type}{enc:TypeId×Value→H}{P:Program}{W:World}{sp:Nat→Bool}{base:Nat}{held:Bool}
theorem weightsAll_mem:∀ {ds:List (DataW H)} {e:TypeId} {i:Nat} {d:DataW H},ds[i]? =some d→∀ k∈d.weights P e,k∈DataW.weightsAll P e ds
 | [],_,i,_,h,_,_=>by simp at h
 |x::ds,e,0,d,h,k,hk=>by
  simp at h
  subst h
  unfold DataW.weightsAll
  exact List.mem_append_left _ hk
 |x::ds,e,i+1,d,h,k,hk=>by
  unfold DataW.weightsAll
  exact List.mem_append_right _ (weightsAll_mem (by simpa using h) k hk)
theorem spot_of_cell{a:Addr}{v:Value}(h:W.cell? (a.add (0*n+0))=some v):∃ b o,a=⟨b,o,none⟩:=by
 have e:a.add (0*n+0)=a:=by rw[Nat.zero_mul];simp[Addr.add]
 rw[e]at h
 obtain⟨b,o,s⟩:=a
 cases s with
 |none=>exact⟨b,o,rfl⟩
 |some s=>
  exfalso
  unfold World.cell? at h
  split at h
  ·simp at h
  ·cases h
end Go.Fx
namespace Go.Fx
open Go
def bytesV(s:ByteArray):List (List Value):=s.data.toList.map fun b=>[.int .u8 (b.toNat:Int)]
theorem bytesV_good(s:ByteArray):good 1 (bytesV s):=by
 intro x hx
 obtain⟨b,_,rfl⟩:=List.mem_map.1 hx
 exact⟨rfl,rfl⟩
theorem bytesV_len(s:ByteArray):(bytesV s).length=s.size:=by simp[bytesV]
theorem bytesV_flat(s:ByteArray):(bytesV s).flatten=byteCells s:=by
 unfold bytesV byteCells
 generalize s.data.toList=l
 induction l with
 |nil=>rfl
 |cons y l ih=>simp[ih]
theorem bytesV_app(s t:ByteArray):bytesV s++bytesV t=bytesV (s++t):=by
 simp[bytesV]
section
variable{X:Cx}{ops:Array Oper}{nb:NB}{N:Act→World→Prop}{i:Nat}{os:List Oper}{Ls:List HProp}{ds:List Deferred}{ρ:Regs}{L:List HProp}{ty:TypeId}{d:Nat}
theorem e_append_src{t tx e n by_:Nat}{zs:List Value}[I:Sl X.P t e n by_ zs]{s x:Operand}{v u:Value}{xs ys:List (List Value)}{R:List HProp}{d:Option Nat}
  (hz:Nat.beq zs.length n=true)(hs:ev ρ s=v)(hx:ev ρ x=u)(hsel:Sel L (row e n v xs) R)(gy:good n ys)(hsr:∀ w,Sats X.w0 w R→Src X.P n tx u ys.length ys.flatten w)(hb:(xs.length+ys.length)*by_≤140737488355328)(hb':xs.length+ys.length≤4611686018427387904):
  Eff X d (.call {callee:=.builtin .append,args:= #[s,x],argTypes:= #[t,tx]}) ty ρ L Value (fun v'=>v'.oneCell'=true) (fun v'=>v') (fun v'=>row e n v' (xs++ys)::R):=by
 subst hs hx
 refine⟨(fun _ e=>by cases e),fun pos after gd=>⟨rfl,fun w hw=>?_⟩⟩
 obtain⟨ht,k,z,hk,hkz,rfl,rfl,hzc⟩:=I.get
 have hzs:z.cells.size=k.size:=by rw[← Nat.eq_of_beq_eq_true hz,← hzc];simp
 have hw1:=hw.sel hsel
 obtain⟨h1,h2,ha,l1,l2,⟨g,hrow⟩,hR⟩:=hw1.heap
 have hsrc:=hsr w (hw1.map fun _ hh=>hh.tail)
 have hop:execOp (ev ρ) ⟨d,.call {callee:=.builtin .append,args:= #[s,x],argTypes:= #[t,tx]},ty,pos,after,gd⟩=(do pure (.value (← Builtin.append_ #[t,tx] ty #[ev ρ s,ev ρ x]))):=by
  simp[execOp,resolve,invoke,builtin]
 have fin:∀ {v':Value} {w':World},v'.oneCell'=true→(Builtin.append_ #[t,tx] ty #[ev ρ s,ev ρ x]).run X.P w= .ok v' w'→Sats X.w0 w' (row e k.size v' (xs++ys)::R)→
   OpVal X.P ⟨d,.call {callee:=.builtin .append,args:= #[s,x],argTypes:= #[t,tx]},ty,pos,after,gd⟩ (ev ρ) w fun u' w'=>∃ y:Value,y.oneCell'=true∧u'=y∧Sats X.w0 w' (row e k.size y (xs++ys)::R):=by
  intro v' w' h1' hrun hs'
  unfold OpVal
  rw[hop]
  simp only[Sem.run_bind,hrun,Result.andThen_ok,Sem.run_pure]
  exact⟨v',h1',rfl,hs'⟩
 have grow:∀ (p:Option Addr) (cap:Nat),ev ρ s= .slice p xs.length cap→cap<xs.length+ys.length→(Builtin.firstCells k.size xs.length (.slice p xs.length cap)).run X.P w.drew= .ok xs.flatten.toArray w.drew→
   OpVal X.P ⟨d,.call {callee:=.builtin .append,args:= #[s,x],argTypes:= #[t,tx]},ty,pos,after,gd⟩ (ev ρ) w fun u' w'=>∃ y:Value,y.oneCell'=true∧u'=y∧Sats X.w0 w' (row e k.size y (xs++ys)::R):=by
  intro p cap hp hlt hold
  have hrun:=run_append_grow_src (P:=X.P) w t tx ty e k z ht hk hkz p xs.length cap xs.flatten hold (ev ρ x) ys.length ys.flatten hsrc hlt (by omega) (growslice_fits hlt hb)
  rw[← hp]at hrun
  refine fin rfl hrun ?_
  have hs0:Sats X.w0 w R:=hw1.map fun _ hh=>hh.tail
  have hs1:=hs0.drew.alloc (.cells ((xs.flatten++ys.flatten).toArray++Builtin.zeroCells z.cells (grownCap w (xs.length+ys.length) cap e-(xs.length+ys.length))) e)
  refine hs1.map fun _ hh=>hh.headMono fun _ hp'=>⟨g.append gy,.inr ⟨w.heap.size,_,(Builtin.zeroCells z.cells (grownCap w (xs.length+ys.length) cap e-(xs.length+ys.length))).toList,by rw[List.length_append],?_,?_⟩⟩
  ·have hge:=grownCap_ge w (xs.length+ys.length) cap e
   simp only[List.length_append,List.flatten_append,g.flatten_length,gy.flatten_length,Array.length_toList,size_zeroCells,hzs,← Nat.add_mul]
   congr 1
   omega
  ·have e1:((xs++ys).flatten++(Builtin.zeroCells z.cells (grownCap w (xs.length+ys.length) cap e-(xs.length+ys.length))).toList).toArray=(xs.flatten++ys.flatten).toArray++Builtin.zeroCells z.cells (grownCap w (xs.length+ys.length) cap e-(xs.length+ys.length)):=by
    apply Array.ext';simp
   rw[e1]
   exact hp'
 rcases hrow with⟨hnil,rfl⟩|⟨b,cap,rest,hv',hl,hbk⟩
 ·by_cases hy:ys=[]
  ·subst hy
   have hrun:(Builtin.append_ #[t,tx] ty #[ev ρ s,ev ρ x]).run X.P w= .ok (.slice none 0 0) w:=by
    rw[hnil]
    have h3:=hsrc.len w
    have h4:=hsrc.cells
    simp only[List.length_nil]at h3 h4
    rcases hsrc.kind with⟨e',hk'⟩|hk'<;>simp[Builtin.append_,run_underlying ht,run_underlying hk',sizeOf,typeInfo,hk,h3,h4]
   refine fin rfl hrun ?_
   refine hw1.map fun _ hh=>hh.headMono fun _ _=>⟨by simpa using g,.inl ⟨rfl,by simp⟩⟩
  ·refine grow none 0 hnil ?_ ?_
   ·have:=List.length_pos_iff.2 hy
    simp;omega
   ·exact run_firstCells_none w.drew _ _ _ _
 ·have hbw:w.heap[b]? =some (.cells (xs.flatten++rest).toArray e):=l1 _ _ hbk
  by_cases hroom:xs.length+ys.length≤cap
  ·have hle:xs.flatten.length+ys.flatten.length≤(xs.flatten++rest).length:=by
    rw[hl,g.flatten_length,gy.flatten_length,← Nat.add_mul]
    exact Nat.mul_le_mul_right _ hroom
   have hs2:Sats X.w0 w (pts b (.cells (xs.flatten++rest).toArray e)::R):=⟨hw1.os,hw1.tape,hw1.output,hw1.size,⟨h1,h2,ha,l1,l2,hbk,hR⟩⟩
   obtain⟨w',hst,hs'⟩:=storeCells_list (P:=X.P) ys.flatten 0 (xs.length*k.size) (xs.flatten++rest) R Sel.here hs2 gy.one (by rw[← g.flatten_length];omega)
   have hrun:(Builtin.append_ #[t,tx] ty #[ev ρ s,ev ρ x]).run X.P w= .ok (.slice (some ⟨b,0,none⟩) (xs.length+ys.length) cap) w':=by
    rw[hv']
    have h3:=hsrc.len w
    have h4:=hsrc.cells
    rcases hsrc.kind with⟨e',hk'⟩|hk'<;>
     simp[Builtin.append_,run_underlying ht,run_underlying hk',sizeOf,typeInfo,hk,h3,h4,hroom,Addr.add_lit,hst]
   refine fin rfl hrun ?_
   refine hs'.map fun _ hh=>hh.headMono fun _ hp'=>⟨g.append gy,.inr ⟨b,cap,rest.drop ys.flatten.length,by rw[List.length_append],?_,?_⟩⟩
   ·simp only[List.length_append]at hl hle ⊢
    simp only[List.flatten_append,List.length_append,List.length_drop]
    omega
   ·have e1:(xs++ys).flatten++rest.drop ys.flatten.length=(xs.flatten++rest).take (xs.length*k.size+0)++ys.flatten++(xs.flatten++rest).drop (xs.length*k.size+0+ys.flatten.length):=by
     rw[Nat.add_zero,← g.flatten_length,List.take_left,List.flatten_append,List.append_assoc,← List.drop_drop,List.drop_left,List.append_assoc]
    rw[e1]
    exact hp'
  ·refine grow _ cap hv' (by omega) ?_
   refine run_firstCells_some w.drew _ _ _ _ _ _ g.flatten_length ?_
   intro j u hj
   rw[add_plain]
   exact cell_of_heap (w:=w.drew) (cs:=(xs.flatten++rest).toArray) hbw (by rw[Nat.zero_add,List.getElem?_toArray,List.getElem?_append_left (List.getElem?_eq_some_iff.1 hj).1];exact hj)
theorem s_append_str [NoT nb]{t tx e by_:Nat}{zs:List Value}[I:Sl X.P t e 1 by_ zs][J:Ty X.P tx .string]{s x:Operand}{v:Value}{u:ByteArray}{xs:List (List Value)}{R:List HProp}
  (hz:Nat.beq zs.length 1=true)(hs:ev ρ s=v)(hx:ev ρ x= .string u)(hsel:Sel L (row e 1 v xs) R)(hb:(xs.length+u.size)*by_≤140737488355328)(hb':xs.length+u.size≤4611686018427387904)(hd:Nat.blt d X.nt=true)(hnb:nb.contains i=false)
  (h:∀ v',v'.oneCell'=true→OpsL X ops nb N (i+1) os (row e 1 v' (xs++bytesV u)::R) ds (upd ρ d v') (row e 1 v' (xs++bytesV u)::R)):Op1 X ops nb N i (some d) (.call {callee:=.builtin .append,args:= #[s,x],argTypes:= #[t,tx]}) ty os Ls ds ρ L:=
 op_eff (e_append_src hz hs hx hsel (bytesV_good u) (fun w _=>by rw[bytesV_len,bytesV_flat];exact Src.ofString w J.und u) (by rw[bytesV_len];exact hb) (by rw[bytesV_len];exact hb')) (fun _ e=>by cases e;exact hd) hnb h
theorem s_store_nb [NoT nb]{t:TypeId}{n:Nat}[I:Sz X.P t n]{a x:Operand}{b o:Nat}{cs cs' vs:List Value}{T:TypeId}{R:List HProp}{v:Value}
  (hx:ev ρ a= .pointer (some ⟨b,o,none⟩))(hv:ev ρ x=v)(hvs:v.cells.toList=vs)(hsel:Sel L (pts b (.cells cs.toArray T)) R)(h1:oneCells vs=true)(hn:Nat.beq vs.length n=true)(hl:Nat.ble (o+n) cs.length=true)
  (hcs:cs.take o++vs++cs.drop (o+n)=cs')(hk:∀ h,SatL (pts b (.cells cs'.toArray T)::R) h→SatL Ls h)
  (h:OpsL X ops nb N (i+1) os Ls ds ρ (pts b (.cells cs'.toArray T)::R)):Op1 X ops nb N i none (.store t a x) ty os Ls ds ρ L:=
 op_eff_nb (e_store hx hv hvs hsel h1 hn hl hcs) (fun _ e=>by cases e) (fun _ _=>hk) fun _ _=>h
theorem s_toUnsafe [NoT nb]{s t e n:Nat}[I:Ty X.P s (.pointer e)][J:Ty X.P t .unsafePointer][K:Sz X.P e n]{x:Operand}{b o:Nat}{cs:Array Value}{T:TypeId}{fr:Nat×Nat}(hx:ev ρ x= .pointer (some ⟨b,o,none⟩))(hc:(X.cv.contains s||X.cv.contains t)=true)(hn:Nat.beq n 0=false)
  (hr:RdIn L b (.cells cs T fr))(ho:o<cs.size)(hd:Nat.blt d X.nt=true)(hb:nb.contains i=false)
  (h:OpsL X ops nb N (i+1) os L ds (upd ρ d (.pointer (some ⟨b,o,none⟩))) L):Op1 X ops nb N i (some d) (.convert s t x) ty os Ls ds ρ L:=by
 refine op_eff (Y:=Unit) (φ:=fun _=>True) (v:=fun _=>.pointer (some ⟨b,o,none⟩)) (L':=fun _=>L) ⟨(fun _ e=>by cases e),fun pos after gd=>⟨by simp only[qk,hc];simp,fun w hs=>?_⟩⟩ (fun _ e=>by cases e;exact hd) hb fun _ _=>h
 obtain⟨k,hk,hks⟩:∃ k,X.P.info? e=some k∧k.size=n:=by
  have:=K.size
  cases hi:X.P.info? e with
  |none=>rw[hi]at this;cases this
  |some k=>rw[hi]at this;exact⟨k,rfl,by simpa using this⟩
 have hn':n≠0:=fun e=>by subst e;simp at hn
 have hrun:=Lib.run_to_unsafe (P:=X.P) w (⟨b,o,none⟩:Addr) I.und J.und hk (by rw[hks];exact hn') (shape_of (hr.heap hs)) ho
 unfold OpVal
 simp only[execOp,hx,Sem.run_bind,hrun,Result.andThen_ok,Sem.run_pure]
 exact⟨(),trivial,trivial,hs⟩
theorem s_fromUnsafe [NoT nb]{s t u n:Nat}[I:Ty X.P s .unsafePointer][J:Ty X.P t (.pointer u)][K:Sz X.P u n]{x:Operand}{b o:Nat}{cs:Array Value}{T:TypeId}{fr:Nat×Nat}(hx:ev ρ x= .pointer (some ⟨b,o,none⟩))(hc:(X.cv.contains s||X.cv.contains t)=true)
  (hr:RdIn L b (.cells cs T fr))(ho:liesAt X.P X.P.depth T (cs.size / X.P.cellsOf T) o u 1=true)(hd:Nat.blt d X.nt=true)(hb:nb.contains i=false)
  (h:OpsL X ops nb N (i+1) os L ds (upd ρ d (.pointer (some ⟨b,o,none⟩))) L):Op1 X ops nb N i (some d) (.convert s t x) ty os Ls ds ρ L:=by
 refine op_eff (Y:=Unit) (φ:=fun _=>True) (v:=fun _=>.pointer (some ⟨b,o,none⟩)) (L':=fun _=>L) ⟨(fun _ e=>by cases e),fun pos after gd=>⟨by simp only[qk,hc];simp,fun w hs=>?_⟩⟩ (fun _ e=>by cases e;exact hd) hb fun _ _=>h
 obtain⟨k,hk,hks⟩:∃ k,X.P.info? u=some k∧k.size=n:=by
  have:=K.size
  cases hi:X.P.info? u with
  |none=>rw[hi]at this;cases this
  |some k=>rw[hi]at this;exact⟨k,rfl,by simpa using this⟩
 have hrun:=Lib.run_from_unsafe (P:=X.P) w (⟨b,o,none⟩:Addr) I.und J.und hk (shape_of (hr.heap hs)) ho
 unfold OpVal
 simp only[execOp,hx,Sem.run_bind,hrun,Result.andThen_ok,Sem.run_pure]
 exact⟨(),trivial,trivial,hs⟩
class SameI(P:Program)(f:FuncId):Prop where
 call:∀ x w,(callFunc f #[x]).run P w= .ok (.value x) w
theorem s_same [NoT nb]{f:FuncId}[K:SameI X.P f]{x:Operand}{at_:Array TypeId}{v:Value}(hx:ev ρ x=v)(hd:Nat.blt d X.nt=true)(hb:nb.contains i=false)
  (h:OpsL X ops nb N (i+1) os L ds (upd ρ d v) L):Op1 X ops nb N i (some d) (.call {callee:=.value (.func f),args:= #[x],argTypes:=at_}) ty os Ls ds ρ L:=by
 refine op_eff (Y:=Unit) (φ:=fun _=>True) (v:=fun _=>v) (L':=fun _=>L) ⟨(fun _ e=>by cases e),fun pos after gd=>⟨rfl,fun w hs=>?_⟩⟩ (fun _ e=>by cases e;exact hd) hb fun _ _=>h
 unfold OpVal
 have e1:(#[x].map (ev ρ))=#[v]:=by simp[hx]
 simp only[execOp,resolve,ev,Deferred.ofValue,invoke,Sem.run_bind,Sem.run_pure,Result.andThen_ok,Array.append_empty,Array.empty_append,e1,K.call]
 exact⟨(),trivial,trivial,hs⟩
theorem s_sliceData_nil_nb [NoT nb]{x:Operand}{at_:Array TypeId}{n c:Nat}(hx:ev ρ x= .slice none n c)(hd:Nat.blt d X.nt=true)(hk:∀ h,SatL L h→SatL Ls h)
  (h:OpsL X ops nb N (i+1) os Ls ds (upd ρ d (.pointer none)) L):Op1 X ops nb N i (some d) (.call {callee:=.builtin .unsafeSliceData,args:= #[x],argTypes:=at_}) ty os Ls ds ρ L:=by
 refine op_eff_nb (Y:=Unit) (φ:=fun _=>True) (v:=fun _=>.pointer none) (L':=fun _=>L) ⟨(fun _ e=>by cases e),fun pos after gd=>⟨rfl,fun w hs=>?_⟩⟩ (fun _ e=>by cases e;exact hd) (fun _ _=>hk) fun _ _=>h
 have hrun:=Lib.run_unsafeSliceData_nil (P:=X.P) w at_ ty n c
 unfold OpVal
 simp[execOp,resolve,invoke,builtin,hx,hrun]
 exact hs
theorem s_sliceData_row_nb [NoT nb]{x:Operand}{at_:Array TypeId}{a:Addr}{n c:Nat}(hx:ev ρ x= .slice (some a) n c)(hc:c≠0)(hd:Nat.blt d X.nt=true)(hk:∀ h,SatL L h→SatL Ls h)
  (h:OpsL X ops nb N (i+1) os Ls ds (upd ρ d (.pointer (some a))) L):Op1 X ops nb N i (some d) (.call {callee:=.builtin .unsafeSliceData,args:= #[x],argTypes:=at_}) ty os Ls ds ρ L:=by
 refine op_eff_nb (Y:=Unit) (φ:=fun _=>True) (v:=fun _=>.pointer (some a)) (L':=fun _=>L) ⟨(fun _ e=>by cases e),fun pos after gd=>⟨rfl,fun w hs=>?_⟩⟩ (fun _ e=>by cases e;exact hd) (fun _ _=>hk) fun _ _=>h
 have hrun:=Lib.run_unsafeSliceData_row (P:=X.P) w at_ ty a n c hc
 unfold OpVal
 simp[execOp,resolve,invoke,builtin,hx,hrun]
 exact hs
theorem s_sliceData_zero_nb [NoT nb]{e:Nat}[I:Ty X.P ty (.pointer e)]{x:Operand}{at_:Array TypeId}{b n ee k:Nat}{xs:List (List Value)}{R:List HProp}(hx:ev ρ x= .slice (some ⟨b,0,none⟩) n 0)(hr:Sel L (row ee k (.slice (some ⟨b,0,none⟩) n 0) xs) R)(hd:Nat.blt d X.nt=true)(hk:∀ h,SatL L h→SatL Ls h)
  (h:∀ b',OpsL X ops nb N (i+1) os Ls ds (upd ρ d (.pointer (some ⟨b',0,none⟩))) L):Op1 X ops nb N i (some d) (.call {callee:=.builtin .unsafeSliceData,args:= #[x],argTypes:=at_}) ty os Ls ds ρ L:=by
 refine op_eff_nb (Y:=Nat) (φ:=fun _=>True) (v:=fun b'=>.pointer (some ⟨b',0,none⟩)) (L':=fun _=>L) ⟨(fun _ e=>by cases e),fun pos after gd=>⟨rfl,fun w hs=>?_⟩⟩ (fun _ e=>by cases e;exact hd) (fun _ _=>hk) fun b' _=>h b'
 have hs1:=hs.sel hr
 obtain⟨f1,f2,ha,l1,l2,⟨g,hrow⟩,hR⟩:=hs1.heap
 rcases hrow with⟨hn,_⟩|⟨b',cap',rest,hv',hl,hbk⟩
 ·cases hn
 simp only[Value.slice.injEq,Option.some.injEq,Addr.mk.injEq,and_true]at hv'
 obtain⟨hbb,hlen,hcc⟩:=hv'
 subst hbb
 have hrun:=Lib.run_unsafeSliceData_zero (P:=X.P) w at_ ty e I.und ⟨b,0,none⟩ n _ (shape_of (l1 _ _ hbk))
 unfold OpVal
 simp[execOp,resolve,invoke,builtin,hx,hrun]
 exact(hs.alloc _).map fun _ hh=>hh.tail
theorem s_unsafeString_none [NoT nb]{x y:Operand}{pt it:TypeId}{p:Option Addr}(hx:ev ρ x= .pointer p)(hy:ev ρ y= .int .i64 0)(hd:Nat.blt d X.nt=true)(hb:nb.contains i=false)
  (h:OpsL X ops nb N (i+1) os L ds (upd ρ d (.string ⟨#[]⟩)) L):Op1 X ops nb N i (some d) (.call {callee:=.builtin .unsafeString,args:= #[x,y],argTypes:= #[pt,it]}) ty os Ls ds ρ L:=by
 refine op_eff (Y:=Unit) (φ:=fun _=>True) (v:=fun _=>.string ⟨#[]⟩) (L':=fun _=>L) ⟨(fun _ e=>by cases e),fun pos after gd=>⟨rfl,fun w hs=>?_⟩⟩ (fun _ e=>by cases e;exact hd) hb fun _ _=>h
 have hrun:=Lib.run_unsafeString_none (P:=X.P) w pt it ty p
 unfold OpVal
 simp[execOp,resolve,invoke,builtin,hx,hy,hrun]
 exact⟨rfl,hs⟩
theorem s_unsafeString_row [NoT nb]{e:Nat}{x y:Operand}{pt it:TypeId}[I:Ty X.P pt (.pointer e)]{b cap:Nat}{s:ByteArray}{R:List HProp}{m:Int}(hx:ev ρ x= .pointer (some ⟨b,0,none⟩))(hy:ev ρ y= .int .i64 m)(hm:m=(s.size:Int))(hc:X.P.cellsOf e=1)(h0:s.size≠0)(h63:s.size≤9223372036854775807)
  (hsel:Sel L (row e 1 (.slice (some ⟨b,0,none⟩) s.size cap) (bytesV s)) R)(hd:Nat.blt d X.nt=true)(hb:nb.contains i=false)
  (h:OpsL X ops nb N (i+1) os R ds (upd ρ d (.string s)) R):Op1 X ops nb N i (some d) (.call {callee:=.builtin .unsafeString,args:= #[x,y],argTypes:= #[pt,it]}) ty os Ls ds ρ L:=by
 refine op_eff (Y:=Unit) (φ:=fun _=>True) (v:=fun _=>.string s) (L':=fun _=>R) ⟨(fun _ e=>by cases e),fun pos after gd=>⟨rfl,fun w hs=>?_⟩⟩ (fun _ e=>by cases e;exact hd) hb fun _ _=>h
 subst hm
 have hs1:=hs.sel hsel
 obtain⟨f1,f2,ha,l1,l2,⟨g,hrow⟩,hR⟩:=hs1.heap
 rcases hrow with⟨hn,_⟩|⟨b',cap',rest,hv',hl,hbk⟩
 ·cases hn
 simp only[Value.slice.injEq,Option.some.injEq,Addr.mk.injEq,and_true]at hv'
 obtain⟨hbb,hlen,hcc⟩:=hv'
 subst hbb hcc
 have hfl:=g.flatten_length
 rw[bytesV_len,Nat.mul_one]at hfl
 have hbw:=l1 _ _ hbk
 have hsz:s.data.toList.length=s.size:=by simp
 have hrun:=Lib.run_unsafeString_row (P:=X.P) w pt it ty e I.und hc b _ (shape_of hbw) s.data.toList (by intro h;rw[h]at hsz;exact h0 hsz.symm)
  (by rw[hsz];simp only[List.size_toArray,List.length_append];omega) (by omega) (by
   intro j x hj
   rw[add_plain,Nat.zero_add]
   refine cell_of_heap hbw ?_
   rw[List.getElem?_toArray,bytesV_flat,List.getElem?_append_left (by unfold byteCells;rw[List.length_map];exact(List.getElem?_eq_some_iff.1 hj).1)]
   simp[byteCells,hj])
 rw[hsz]at hrun
 have e2:(⟨s.data.toList.toArray⟩:ByteArray)=s:=rfl
 have hne:∀ k,k≠b→(w.freeze ⟨b,0,none⟩ s.size).heap[k]? =w.heap[k]? :=by
  intro k hk
  unfold World.freeze
  rw[if_neg h0]
  simp only[Array.getElem?_modify]
  rw[if_neg (by omega)]
 have hfz:∃ o',(w.freeze ⟨b,0,none⟩ s.size).heap[b]? =some o':=by
  unfold World.freeze
  rw[if_neg h0]
  simp only[Array.getElem?_modify,if_true,hbw]
  exact⟨_,rfl⟩
 obtain⟨o',ho'⟩:=hfz
 have hs2:Sats X.w0 w (pts b (.cells ((bytesV s).flatten++rest).toArray e)::R):=⟨hs1.os,hs1.tape,hs1.output,hs1.size,⟨f1,f2,ha,l1,l2,hbk,hR⟩⟩
 have hs3:=hs2.update (w':=w.freeze ⟨b,0,none⟩ s.size) (o':=o') (by unfold World.freeze;rw[if_neg h0]) (by unfold World.freeze;rw[if_neg h0]) (by unfold World.freeze;rw[if_neg h0]) (by unfold World.freeze;rw[if_neg h0];simp) ho' hne
 unfold OpVal
 simp[execOp,resolve,invoke,builtin,hx,hy,hrun]
 exact hs3.map fun _ hh=>hh.tail
end
def IterSpecX(P:Program)(f:FuncId)(cap:List Value)(A A':List HProp){α:Type}(xs:List α)(enc:α→List Value):Prop:=
 ∀ (yv:Value) (St Sp:List α→HProp) (go:List α→Bool),
  (∀ pre p,pre++[p] <+:xs→VSpec P yv (enc p) [St pre] Unit (fun _=>True) (fun _=>.bool (go (pre++[p]))) (fun _=>[if go (pre++[p])then St (pre++[p])else Sp (pre++[p])]))→
  FSpec P f (yv::cap) (A++[St []]) Unit (fun _=>True) (fun _=>.tuple #[]) (fun _=>(if(eat go [] xs).2 then St (eat go [] xs).1 else Sp (eat go [] xs).1)::A')
section
variable{X:Cx}{ds:List Deferred}{ρ:Regs}{L:List HProp}
theorem ok_rangeX{α:Type}{xs:List α}{enc:α→List Value}{f:FuncId}{cap:List Value}{A A' L1 R':List HProp}{g:Operand}{params:Array Tmp}{assign body:Code}{Q:Exit→Act→World→Prop}[F:FnI X.P f]
  (go:List α→Bool)(K:List α→List HProp)(jp:List α→Code)(it:IterSpecX X.P f cap A A' xs enc)(hr:X.r=none)(hg:ev ρ g= .func (.func f) #[] cap.toArray)
  (ht:Take L A L1)(hK:∀ h,SatL L1 h→SatL (K []++R') h)(hlen:∀ p,(enc p).length=params.size)(hps:params.toList.all (Nat.blt · X.nt)=true)
  (round:∀ l pre p,pre++[p] <+:xs→∀ (w0:W0) (R:List HProp) (LP0 LP1:HProp) (QB QE:Exit→Act→World→Prop),
   (∀ {ds ρ' L L'},Take L [LP0] L'→Ok ⟨X.P,some l,X.nt,w0,X.cv⟩ body ds ρ' (LP1::L') QE→Cont ⟨X.P,some l,X.nt,w0,X.cv⟩ QB .normal ds ρ' L)→
   (∀ {ds ρ' L L'},go (pre++[p])=true→Take L [LP1] L'→(∀ h,SatL L' h→SatL (K (pre++[p])++R) h)→Cont ⟨X.P,some l,X.nt,w0,X.cv⟩ QE .normal ds ρ' L)→
   (∀ {ds ρ' L L' id},go (pre++[p])=false→jp (pre++[p])= .exit id→Take L [LP1] L'→(∀ h,SatL L' h→SatL (K (pre++[p])++R) h)→Cont ⟨X.P,some l,X.nt,w0,X.cv⟩ QE (.exit id) ds ρ' L)→
   (∀ {ds ρ' L L'},go (pre++[p])=false→jp (pre++[p])= .ret→Take L [LP1] L'→(∀ h,SatL L' h→SatL (K (pre++[p])++R) h)→Cont ⟨X.P,some l,X.nt,w0,X.cv⟩ QE .ret ds ρ' L)→
   Ok ⟨X.P,some l,X.nt,w0,X.cv⟩ assign [] (updMany ρ (params.toList.zip (enc p))) (LP0::K pre++R) QB)
  (done:∀ dk,(eat go [] xs).2=true→Cont X Q .normal (mark dk::ds) ρ (marked dk::K xs++(A'++R')))
  (stop:∀ dk q,eat go [] xs=(q,false)→Ok X (jp q) (mark dk::ds) ρ (marked dk::K q++(A'++R')) Q)(hm:X.w0.m=false:=by rfl):Ok X (.rangeFunc g params assign body) ds ρ L Q:=by
 refine ok_rangeFunc hr hg fun dk l=>?_
 have hspec:=it (.func (.yield l) #[] #[]) (fun q h=>SatL (loopP X.nt ρ params assign body dk l .ready none::K q) h) (fun q h=>SatL (loopP X.nt ρ params assign body dk l .done (some (jp q))::K q) h) go (by
  intro pre p hp
  cases hgo:go (pre++[p])with
  |true=>
   refine yield_on X.cv (hlen p) hps fun w0 R=>round l pre p hp ⟨w0,false⟩ R _ _ _ _ (fun ht h=>cont_round rfl ht h) ?_ ?_ ?_
   ·exact fun _ ht hk=>cont_round_end () ht rfl hk trivial
   ·exact fun e=>by rw[hgo]at e;cases e
   ·exact fun e=>by rw[hgo]at e;cases e
  |false=>
   refine yield_off X.cv (jp (pre++[p])) (hlen p) hps fun w0 R=>round l pre p hp ⟨w0,false⟩ R _ _ _ _ (fun ht h=>cont_round rfl ht h) ?_ ?_ ?_
   ·exact fun e=>by rw[hgo]at e;cases e
   ·exact fun _ e ht hk=>cont_round_exit () ht (by rw[e]) hk trivial
   ·exact fun _ e ht hk=>cont_round_ret () ht (by rw[e]) hk trivial)
 refine⟨Unit,fun _=>True,_,_,marked dk::R',_,FSpecM.of hm hspec,?_,?_⟩
 ·intro h s
  have s1:SatL (marked dk::loopP X.nt ρ params assign body dk l .ready none::(A++(K []++R'))) h:=
   (SatL.swap s).consMono fun _ s=>s.consMono fun _ s=>satL_append_mono A hK (ht.out s)
  have s2:SatL (marked dk::(A++[fun h=>SatL (loopP X.nt ρ params assign body dk l .ready none::K []) h]++R')) h:=s1.consMono fun _ s=>by
   refine satL_rot A ?_
   have s3:SatL ((loopP X.nt ρ params assign body dk l .ready none::K [])++(A++R')) _:=s.consMono fun _ s=>satL_comm A s
   exact SatL.unflat s3
  have:=satL_comm [marked dk] (B:=A++[fun h=>SatL (loopP X.nt ρ params assign body dk l .ready none::K []) h]) (L:=R') s2
  exact this
 ·intro _ _
  cases hb:(eat go [] xs).2 with
  |true=>
   refine⟨.ready,none,marked dk::K xs++(A'++R'),by simp,?_,done dk hb⟩
   intro h s
   rw[eat_true hb]at s
   have s1:SatL ((loopP X.nt ρ params assign body dk l .ready none::K ([]++xs))++(A'++marked dk::R')) h:=SatL.flat s
   refine SatL.consMono (A:=loopP X.nt ρ params assign body dk l .ready none) s1 fun _ s=>?_
   have s2:=satL_append_mono (K ([]++xs)) (fun _ k=>satL_comm A' (B:=[marked dk]) (L:=R') k) s
   exact satL_comm (K ([]++xs)) (B:=[marked dk]) (L:=A'++R') s2
  |false=>
   refine⟨.done,some (jp (eat go [] xs).1),marked dk::K (eat go [] xs).1++(A'++R'),by simp,?_,stop dk _ (by rw[← hb])⟩
   intro h s
   have s1:SatL ((loopP X.nt ρ params assign body dk l .done (some (jp (eat go [] xs).1))::K (eat go [] xs).1)++(A'++marked dk::R')) h:=SatL.flat s
   refine SatL.consMono (A:=loopP X.nt ρ params assign body dk l .done (some (jp (eat go [] xs).1))) s1 fun _ s=>?_
   have s2:=satL_append_mono (K (eat go [] xs).1) (fun _ k=>satL_comm A' (B:=[marked dk]) (L:=R') k) s
   exact satL_comm (K (eat go [] xs).1) (B:=[marked dk]) (L:=A'++R') s2
end
end Go.Fx
namespace Go.Fx
open Go
theorem ix_lit(n:Nat):(OfNat.ofNat n:Int)=((OfNat.ofNat n:Nat):Int):=rfl
section
variable{X:Cx}{ops:Array Oper}{nb:NB}{N:Act→World→Prop}{i:Nat}{os:List Oper}{Ls:List HProp}{ds:List Deferred}{ρ:Regs}{L:List HProp}{ty:TypeId}{d:Nat}
theorem ops_learn{φ:Prop}(k:∀ h,SatL L h→φ)(h:φ→OpsL X ops nb N i os Ls ds ρ L):OpsL X ops nb N i os Ls ds ρ L:=by
 unfold OpsL
 intro hd a w ha hs
 have:=h (k _ hs.heap)
 unfold OpsL at this
 exact this hd a w ha hs
theorem s_callv_nb [NoT nb]{x:Operand}{fv:Value}{args:Array Operand}{at_:Array TypeId}{vs:List Value}{pre R:List HProp}{Y:Type}{φ:Y→Prop}{ret:Y→Value}{post:Y→List HProp}
  (hx:ev ρ x=fv)(ha:EvA ρ args.toList vs)(hs:VSpecM X.w0.m X.P fv vs pre Y φ ret post)(ht:Take L pre R)(hd:Nat.blt d X.nt=true)(hk:∀ y,φ y→∀ h,SatL (post y++R) h→SatL Ls h)
  (h:∀ y,φ y→OpsL X ops nb N (i+1) os Ls ds (upd ρ d (ret y)) (post y++R)):Op1 X ops nb N i (some d) (.call {callee:=.value x,args:=args,argTypes:=at_}) ty os Ls ds ρ L:=
 op_eff_nb (e_callv hx ha hs ht) (fun _ e=>by cases e;exact hd) hk h
theorem s_cap [NoT nb]{T e:Nat}[I:Ty X.P T (.slice e)]{x:Operand}{p:Option Addr}{len cap:Nat}(hx:ev ρ x= .slice p len cap)(hd:Nat.blt d X.nt=true)(hb:nb.contains i=false)
  (h:OpsL X ops nb N (i+1) os L ds (upd ρ d (.int .i64 cap)) L):Op1 X ops nb N i (some d) (.call {callee:=.builtin .cap,args:= #[x],argTypes:= #[T]}) ty os Ls ds ρ L:=by
 refine op_eff (Y:=Unit) (φ:=fun _=>True) (v:=fun _=>.int .i64 cap) (L':=fun _=>L) ⟨(fun _ e=>by cases e),fun pos after gd=>⟨rfl,fun w hs=>?_⟩⟩ (fun _ e=>by cases e;exact hd) hb fun _ _=>h
 unfold OpVal
 simp[execOp,resolve,invoke,builtin,hx,Builtin.cap_,I.run_underlying,goInt]
 exact hs
theorem s_append_make [NoT nb]{t tx e n by_:Nat}{kn:IntKind}{zs:List Value}[I:Sl X.P t e n by_ zs][J:Ty X.P tx (.int kn)]{s x:Operand}{k:IntKind}{m:Nat}{a:Int}
  (hz:Nat.beq zs.length n=true)(hs:ev ρ s= .slice none 0 0)(hx:ev ρ x= .int k a)(ha:a=(m:Int))(h0:0<m)(hn0:Nat.blt 0 n=true)(hb:m*by_≤140737488355328)(hb':m≤4611686018427387904)(hd:Nat.blt d X.nt=true)(hnb:nb.contains i=false)
  (h:∀ b cap,m≤cap→OpsL X ops nb N (i+1) os (row e n (.slice (some ⟨b,0,none⟩) 0 cap) []::L) ds (upd ρ d (.slice (some ⟨b,0,none⟩) m cap)) (row e n (.slice (some ⟨b,0,none⟩) 0 cap) []::L)):Op1 X ops nb N i (some d) (.call {callee:=.builtin .append,args:= #[s,x],argTypes:= #[t,tx]}) ty os Ls ds ρ L:=by
 subst ha
 refine op_eff (Y:=Nat×Nat) (φ:=fun y=>m≤y.2) (v:=fun y=>.slice (some ⟨y.1,0,none⟩) m y.2) (L':=fun y=>row e n (.slice (some ⟨y.1,0,none⟩) 0 y.2) []::L) ⟨(fun _ e=>by cases e),fun pos after gd=>⟨rfl,fun w hw=>?_⟩⟩ (fun _ e=>by cases e;exact hd) hnb fun y hy=>h y.1 y.2 hy
 obtain⟨ht,kk,z,hk,hkz,rfl,rfl,hzc⟩:=I.get
 have hzs:z.cells.size=kk.size:=by rw[← Nat.eq_of_beq_eq_true hz,← hzc];simp
 have hrun:=Lib.run_append_nil_zeros (P:=X.P) w t tx ty e kk z k kn ht J.und hk hkz m h0 (by simpa using hn0) (by omega) (by omega)
 have hop:execOp (ev ρ) ⟨some d,.call {callee:=.builtin .append,args:= #[s,x],argTypes:= #[t,tx]},ty,pos,after,gd⟩=(do pure (.value (← Builtin.append_ #[t,tx] ty #[.slice none 0 0,.int k m]))):=by
  simp[execOp,resolve,invoke,builtin,hs,hx]
 unfold OpVal
 rw[hop]
 simp only[Sem.run_bind,hrun,Result.andThen_ok,Sem.run_pure]
 have hge:m≤grownCap w m 0 e:=grownCap_ge w m 0 e
 generalize grownCap w m 0 e=C at hge
 refine⟨(w.heap.size,C),hge,rfl,?_⟩
 refine(hw.drew.alloc _).map fun _ hh=>hh.headMono fun _ hp=>⟨fun _ hx=>by simp at hx,.inr ⟨w.heap.size,C,(Builtin.zeroCells z.cells m++Builtin.zeroCells z.cells (C-m)).toList,rfl,?_,?_⟩⟩
 ·simp only[List.flatten_nil,List.nil_append,Array.length_toList,Array.size_append,size_zeroCells,hzs,← Nat.add_mul]
  congr 1
  omega
 ·simp only[List.flatten_nil,List.nil_append,Array.toArray_toList]
  exact hp
theorem a_index_arrA{xt len e n:Nat}[I:ArI X.P xt len e n][J:TyA X.P e]{x y:Operand}{cs vs:List Value}{k:IntKind}{a:Int}{m:Nat}(hx:ev ρ x= .agg cs.toArray)(hy:ev ρ y= .int k a)(ha:a=(m:Int))(hm:m<len)(hc:(cs.drop (m*n)).take n=vs)(hd:Nat.blt d X.nt=true)
  (h:OpsL X ops nb N (i+1) os Ls ds (upd ρ d (.agg vs.toArray)) L):Op1 X ops nb N i (some d) (.index xt x y) ty os Ls ds ρ L:=by
 subst ha hc
 (refine op_pure1 (fun _ e=>by cases e) (fun _ _ _=>by simp[qk]) hd ?_ h;intro pos after gd w)
 have hs:(sizeOf e).run X.P w= .ok n w:=(Sz.mk I.size:Sz X.P e n).run_sizeOf
 have hp:(part e cs.toArray (m*n)).run X.P w= .ok (.agg ((cs.drop (m*n)).take n).toArray) w:=by
  simp[part,J.run_isAgg,hs]
 simp only[execOp,hx,hy,Instr.index,Sem.run_bind,run_underlying_of I.und,Result.andThen_ok,asIntOf,Sem.run_pure]
 rw[if_pos (by omega)]
 simp only[Sem.run_bind,hs,Result.andThen_ok,Int.toNat_natCast,hp,Sem.run_pure]
theorem vspec_bound{P:Program}{f:FuncId}[K:FnI P f]{v:Value}{args:List Value}{pre:List HProp}{Y:Type}{φ:Y→Prop}{ret:Y→Value}{post:Y→List HProp}
  (s:FSpec P f (v::args) pre Y φ ret post):VSpec P (.func (.func f) #[v] #[]) args pre Y φ ret post:=by
 intro w0 w R hs
 unfold Runs callV
 have e: #[v]++args.toArray=(v::args).toArray:=by simp
 simp only[Deferred.ofValue,invoke,Sem.run_bind,Sem.run_pure,Result.andThen_ok,Array.append_empty,e,K.call]
 refine(s w0 w R hs).mono ?_
 rintro e w' ⟨y,hy,rfl,hs'⟩
 exact⟨y,hy,rfl,hs'⟩
end
end Go.Fx
namespace Go.Fx
open Go Go.ChangeShapes Go.WideShapes Go.ChangeAt Go.RowKit
variable{n:Nat}{H:Type}{enc:TypeId×Value→H}{P:Program}{W:World}{sp:Nat→Bool}{base:Nat}{held:Bool}
def capOk(v:Value):Prop:=∃ p len cap,v= .slice p len cap∧len≤cap
theorem cap0:capOk (.slice none 0 0):=⟨none,0,0,rfl,Nat.le_refl _⟩
theorem open_viewC{t e n fuel:Nat}{cs:List Value}{y:DataW H×List MemPlace}(ht:P.underlying t=some (.slice e))(hc:P.cellsOf e=n)(hn:0<n)
  (h:DataW.trod enc P W 0 (fun _=>true) held fuel t cs=some y)(hw:∀ k∈y.1.weights P t,k≤reachBytes){α:Type}[Inhabited α](f:α→List Value)(Pr:α→Prop)(hf:∀ x,(f x).length=n∧oneCells (f x)=true)
  (hel:∀ fuel cs y,DataW.trod enc P W 0 (fun _=>true) held fuel e cs=some y→(∀ k∈y.1.weights P e,k≤reachBytes)→∃ x,cs=f x∧Pr x):
  ∃ (v:Value) (xs:List α),cs=[v]∧capOk v∧(∀ x∈xs,Pr x)∧Vw (orig W) n v (xs.map f):=by
 rcases Deep.open_slice ht h with⟨rfl,_⟩|⟨a',len,cap,m,nf,D,Pl,rfl,_,hl,hm,hmm,hx,hread⟩
 ·refine⟨.slice none 0 0,[],rfl,cap0,by simp,fun h _=>⟨fun x hx=>by simp at hx,none,0,rfl,.inl rfl,fun _=>rfl,fun _ _ e=>by cases e⟩⟩
 ·simp only[if_true]at hmm
  have hlm:len≤m:=by omega
  obtain⟨d,ps⟩:=y
  simp only[Prod.mk.injEq]at hx
  obtain⟨rfl,_⟩:=hx
  rw[hc]at hread
  obtain⟨X,hX⟩:=Deep.choose_lt (α:=α) (n:=len) (p:=fun i x=>Pr x∧W.cells? 0 (a'.add (i*n)) n=some (f x)) (fun i hi=>by
   obtain⟨cs',h2,h3⟩:=hread i (by omega)
   obtain⟨x,rfl,hp⟩:=hel _ _ _ h3 (fun k hk=>hw k (by
    unfold DataW.weights
    rw[ht]
    refine List.mem_cons_of_mem _ (List.mem_append_left _ ?_)
    exact weightsAll_mem (i:=i) (d:=D i) (by simp[hi]) k hk))
   exact⟨x,hp,h2⟩)
  refine⟨.slice (some a') len cap,(List.range len).map X,rfl,⟨_,_,_,rfl,hl⟩,?_,?_⟩
  ·intro x hx
   obtain⟨i,hi,rfl⟩:=List.mem_map.1 hx
   exact(hX i (List.mem_range.1 hi)).1
  ·intro h hh
   have hg:good n (((List.range len).map X).map f):=by
    intro y hy
    obtain⟨x,_,rfl⟩:=List.mem_map.1 hy
    exact hf x
   have hcell:∀ i,i<len→∀ j,j<n→W.cell? (a'.add (i*n+j))=(f (X i))[j]? :=by
    intro i hi j hj
    have h2:=(World.cells?_some (hX i hi).2).2.2 j hj
    rw[Deep.add_add]at h2
    exact h2
   have hcell0:∀ i,i<len→∀ j,j<n→∃ u,W.cell? (a'.add (i*n+j))=some u:=by
    intro i hi j hj
    rw[hcell i hi j hj]
    have:j<(f (X i)).length:=by rw[(hf (X i)).1];exact hj
    exact⟨_,List.getElem?_eq_getElem this⟩
   refine⟨hg,some a',_,by simp;rfl,?_,(fun e=>by cases e),?_⟩
   ·rcases Nat.eq_zero_or_pos len with h0|h0
    ·left;subst h0;rfl
    ·right
     obtain⟨u,hu⟩:=hcell0 0 h0 0 hn
     obtain⟨b,o,rfl⟩:=spot_of_cell hu
     exact⟨b,o,rfl⟩
   ·intro b o hp hne
    cases hp
    have h0:0<len:=by
     rcases Nat.eq_zero_or_pos len with h0|h0
     ·subst h0;exact absurd rfl hne
     ·exact h0
    obtain⟨u0,hu0⟩:=hcell0 0 h0 0 hn
    have hblk:∃ cs T fr,W.heap[b]? =some (.cells cs T fr):=by
     unfold World.cell? at hu0
     rw[add_plain]at hu0
     split at hu0
     ·rename_i c T fr hb;exact⟨c,T,fr,hb⟩
     ·cases hu0
    obtain⟨cs,T,fr,hb⟩:=hblk
    refine⟨cs,T,fr,by rw[hh b (Array.getElem?_eq_some_iff.1 hb).1];exact hb,fun j u hj=>?_⟩
    have hjl:j<len*n:=by
     have:=(List.getElem?_eq_some_iff.1 hj).1
     rw[hg.flatten_length]at this
     simpa using this
    have hi:j / n<len:=Nat.div_lt_of_lt_mul (by rw[Nat.mul_comm];exact hjl)
    have hr:j % n<n:=Nat.mod_lt _ hn
    have hjd:j / n*n+j % n=j:=by rw[Nat.mul_comm];exact Nat.div_add_mod j n
    have hget:=hg.get (i:=j / n) (j:=j % n) (x:=f (X (j / n))) (by simp[hi]) hr
    rw[hjd,hj]at hget
    have hcl:=hcell (j / n) hi (j % n) hr
    rw[hjd,← hget,add_plain]at hcl
    unfold World.cell? at hcl
    rw[hb]at hcl
    simpa using hcl
theorem ops_mapL{X:Cx}{ops:Array Oper}{nb:NB}{N:Act→World→Prop}{i:Nat}{os:List Oper}{Ls:List HProp}{ds:List Deferred}{ρ:Regs}{L L':List HProp}(k:∀ h,SatL L h→SatL L' h)(h:OpsL X ops nb N i os Ls ds ρ L'):OpsL X ops nb N i os Ls ds ρ L:=by
 unfold OpsL at h ⊢
 exact fun hd a w ha hs=>h hd a w ha (hs.map k)
section
variable{X:Cx}{ds:List Deferred}{ρ:Regs}{L:List HProp}{Q:Exit→Act→World→Prop}
def Meet(X:Cx){γ:Type}(I:γ→Regs→List HProp→Prop)(ds:List Deferred)(Q:Exit→Act→World→Prop):Exit→Act→World→Prop:=
 Exit.then (fun a w=>∃ g ρ' L',I g ρ' L'∧Agr X.nt ρ' ds a∧Sats X.w0 w L') Q
theorem ok_meet{x y:Code}{γ:Type}(I:γ→Regs→List HProp→Prop)(h1:Ok X x ds ρ L (Meet X I ds Q))(h2:∀ g ρ L,I g ρ L→Ok X y ds ρ L Q):Ok X (.seq x y) ds ρ L Q:=by
 refine foldOk fun a w ha hs=>wpIn_seq ?_
 refine wpIn_mono (unfoldOk h1 a w ha hs) fun e a' w' he=>?_
 cases e with
 |normal=>
  obtain⟨g,ρ',L',hI,ha',hs'⟩:=he
  exact unfoldOk (h2 g ρ' L' hI) a' w' ha' hs'
 |_=>exact he
section
variable{γ:Type}{I:γ→Regs→List HProp→Prop}
theorem cont_meet(g:γ)(hI:I g ρ L):Cont X (Meet X I ds Q) .normal ds ρ L:=foldCont fun _ _ ha hs=>⟨g,ρ,L,hI,ha,hs⟩
end
attribute [irreducible] Meet
end
end Go.Fx
namespace Go.Fx
open Go
section
variable{X:Cx}{ops:Array Oper}{nb:NB}{N:Act→World→Prop}{i:Nat}{os:List Oper}{Ls:List HProp}{ds:List Deferred}{ρ:Regs}{L:List HProp}{ty:TypeId}{d:Nat}
def dropV(n:Nat)(p:Option Addr)(len cap m:Nat):Value:=.slice (if cap=m then p else p.map (·.add (m*n))) (len-m) (cap-m)
theorem a_slice_viewlo{xt e n by_:Nat}{zs:List Value}[I:Sl X.P xt e n by_ zs]{x y:Operand}{p:Option Addr}{len cap:Nat}{k:IntKind}{a:Int}{m:Nat}(hx:ev ρ x= .slice p len cap)(hy:ev ρ y= .int k a)(ha:a=(m:Int))(h0:m≤len)(hd:Nat.blt d X.nt=true)
  (h:OpsL X ops nb N (i+1) os Ls ds (upd ρ d (dropV n p len cap m)) L):Op1 X ops nb N i (some d) (.slice xt x (some y) none none) ty os Ls ds ρ L:=by
 subst ha
 (refine op_pure1 (fun _ e=>by cases e) (fun _ _ _=>by simp[qk]) hd ?_ h;intro pos after gd w)
 obtain⟨ht,kk,z,hk,hkz,hsz,_,_⟩:=I.get
 have hb:(Instr.sliceBound (.int k (m:Int)) len .sliceB).run X.P w= .ok m w:=by have:=run_sliceBound (P:=X.P) (w:=w) (k:=k) (a:=(m:Int)) (n:=len) (c:=.sliceB) (by omega) (by omega);simpa using this
 simp[execOp,hx,hy,Instr.sliceAt,Instr.slice,run_underlying_of ht,Instr.sliceBounds,hb,sizeOf,typeInfo,hk,dropV,hsz]
end
section
variable{X:Cx}{ops:Array Oper}{nb:NB}{N:Act→World→Prop}{i:Nat}{os:List Oper}{Ls:List HProp}{ds:List Deferred}{ρ:Regs}{L:List HProp}{ty:TypeId}{d:Nat}
theorem s_append_nb [NoT nb]{t tx e e' n by_:Nat}{zs:List Value}[I:Sl X.P t e n by_ zs][J:Ty X.P tx (.slice e')]{s x:Operand}{v u:Value}{xs ys:List (List Value)}{R:List HProp}
  (hz:Nat.beq zs.length n=true)(hs:ev ρ s=v)(hx:ev ρ x=u)(hsel:Sel L (row e n v xs) R)(hr:VwIn R n u ys)(hb:(xs.length+ys.length)*by_≤140737488355328)(hb':xs.length+ys.length≤4611686018427387904)(hd:Nat.blt d X.nt=true)(hk:∀ h,SatL R h→SatL Ls h)
  (h:∀ v',v'.oneCell'=true→OpsL X ops nb N (i+1) os Ls ds (upd ρ d v') (row e n v' (xs++ys)::R)):Op1 X ops nb N i (some d) (.call {callee:=.builtin .append,args:= #[s,x],argTypes:= #[t,tx]}) ty os Ls ds ρ L:=
 op_eff_nb (e_append hz hs hx hsel hr hb hb') (fun _ e=>by cases e;exact hd) (fun _ _ h s=>hk h s.tail) h
end
section
variable{X:Cx}{ops:Array Oper}{l st:List Nat}{Tl:List HProp}{N:Act→World→Prop}{i:Nat}{os:List Oper}{Ls:List HProp}{ds:List Deferred}{ρ:Regs}{L:List HProp}{ty:TypeId}{d:Nat}
theorem a_loadT{t:TypeId}{dd:TypeDesc}[I:Ty X.P t dd](hst:st.contains i=true)(ha:isAggD dd=false){x:Operand}{b o:Nat}{cs:List Value}{T:TypeId}{fr:Nat×Nat}{v:Value}
  (hx:ev ρ x= .pointer (some ⟨b,o,none⟩))(hr:RdIn Tl b (.cells cs.toArray T fr))(hc:cs[o]? =some v)(hd:Nat.blt d X.nt=true)
  (h:OpsL X ops ⟨l,st,Tl⟩ N (i+1) os Ls ds (upd ρ d v) L):Op1 X ops ⟨l,st,Tl⟩ N i (some d) (.load t x) ty os Ls ds ρ L:=by
 refine op_quietT hst (fun _ e=>by cases e) (fun x hx=>by cases hx;assumption) ?_ h
 intro pos after gd w hs
 have hcell:=cell_of_heap (off:=o) (hr.heap hs) (v:=v) (by simpa using hc)
 simp[execOp,hx,Instr.loadAt,Instr.sureAddr,run_loadVar1 (P:=X.P) (t:=t) ha hcell]
theorem a_loadL{t:TypeId}{dd:TypeDesc}[I:Ty X.P t dd](hst:st.contains i=false)(ha:isAggD dd=false){x:Operand}{b o:Nat}{cs:List Value}{T:TypeId}{fr:Nat×Nat}{v:Value}
  (hx:ev ρ x= .pointer (some ⟨b,o,none⟩))(hr:RdIn Ls b (.cells cs.toArray T fr))(hc:cs[o]? =some v)(hd:Nat.blt d X.nt=true)
  (h:OpsL X ops ⟨l,st,Tl⟩ N (i+1) os Ls ds (upd ρ d v) L):Op1 X ops ⟨l,st,Tl⟩ N i (some d) (.load t x) ty os Ls ds ρ L:=by
 refine op_quietL hst (fun _ e=>by cases e) (fun _ _ _=>by simp[qk]) (fun x hx=>by cases hx;assumption) ?_ h
 intro pos after gd w hw
 have hs:=hw.resolve_left (by simp[qk])
 have hcell:=cell_of_heap (off:=o) (hr.heap hs) (v:=v) (by simpa using hc)
 simp[execOp,hx,Instr.loadAt,Instr.sureAddr,run_loadVar1 (P:=X.P) (t:=t) ha hcell]
theorem s_storeT{t:TypeId}{n:Nat}[I:Sz X.P t n]{a x:Operand}{b o:Nat}{cs cs' vs:List Value}{T:TypeId}{R:List HProp}{v:Value}(hst:st.contains i=false)
  (hx:ev ρ a= .pointer (some ⟨b,o,none⟩))(hv:ev ρ x=v)(hvs:v.cells.toList=vs)(hsel:Sel L (pts b (.cells cs.toArray T)) R)(h1:oneCells vs=true)(hn:Nat.beq vs.length n=true)(hl:Nat.ble (o+n) cs.length=true)
  (hcs:cs.take o++vs++cs.drop (o+n)=cs')(hb:l.contains i=false)(hT:∀ h,SatL (pts b (.cells cs'.toArray T)::R) h→SatL Tl h)
  (h:OpsL X ops ⟨l,st,Tl⟩ N (i+1) os (pts b (.cells cs'.toArray T)::R) ds ρ (pts b (.cells cs'.toArray T)::R)):Op1 X ops ⟨l,st,Tl⟩ N i none (.store t a x) ty os Ls ds ρ L:=
 op_effT (e_store hx hv hvs hsel h1 hn hl hcs) hst (fun _ _=>hT) (fun _ e=>by cases e) hb fun _ _=>h
end
theorem Vw.drop{H:HProp}{n:Nat}{p:Option Addr}{len cap:Nat}{xs:List (List Value)}(v:Vw H n (.slice p len cap) xs){k:Nat}(hc:len≤cap):Vw H n (dropV n p len cap k) (xs.drop k):=by
 intro h hh
 obtain⟨g,p',cap',h1,h2,h3,h4⟩:=v h hh
 simp only[Value.slice.injEq]at h1
 obtain⟨rfl,rfl,rfl⟩:=h1
 refine⟨fun x hx=>g x (List.mem_of_mem_drop hx),(if cap=k then p else p.map (·.add (k*n))),cap-k,by rw[List.length_drop];rfl,?_,?_,fun b o hp hx=>?_⟩
 ·rcases h2 with h2|⟨b,o,rfl⟩
  ·exact .inl (by rw[h2];simp)
  ·right
   by_cases hk:cap=k
   ·rw[if_pos hk];exact⟨b,o,rfl⟩
   ·rw[if_neg hk,Option.map_some,add_plain];exact⟨b,_,rfl⟩
 ·intro hp
  have:p=none:=by
   by_cases hk:cap=k
   ·rw[if_pos hk]at hp;exact hp
   ·rw[if_neg hk]at hp;simpa using hp
  rw[h3 this];simp
 ·have hne:xs≠[]:=fun e=>hx (by rw[e];simp)
  have hlt:k<xs.length:=by
   rcases Nat.lt_or_ge k xs.length with h|h
   ·exact h
   ·exact absurd (List.drop_of_length_le h) hx
  rw[if_neg (by omega)]at hp
  rcases h2 with h2|⟨b0,o0,rfl⟩
  ·exact absurd h2 hne
  ·rw[Option.map_some,add_plain]at hp
   simp only[Option.some.injEq,Addr.mk.injEq,and_true]at hp
   obtain⟨rfl,rfl⟩:=hp
   obtain⟨cs,T,fr,hb,hcs⟩:=h4 b0 o0 rfl hne
   refine⟨cs,T,fr,hb,fun j u hj=>?_⟩
   have e:xs=xs.take k++xs.drop k:=(List.take_append_drop k xs).symm
   have gl:(xs.take k).flatten.length=k*n:=by
    have:=good.flatten_length (n:=n) (xs:=xs.take k) (fun x hx=>g x (List.mem_of_mem_take hx))
    rw[this,List.length_take];congr 1;omega
   have:=hcs (k*n+j) u (by
    rw[e,List.flatten_append,List.getElem?_append_right (by rw[gl];omega),gl,Nat.add_sub_cancel_left]
    exact hj)
   rw[Nat.add_assoc]
   exact this
theorem row_cap{e n:Nat}{p:Option Addr}{len cap:Nat}{xs:List (List Value)}{h:Frag}(hn:0<n)(r:row e n (.slice p len cap) xs h):len≤cap:=by
 obtain⟨g,(⟨h1,rfl⟩|⟨b,cap',rest,h1,hl,hb⟩)⟩:=r
 ·simp only[Value.slice.injEq]at h1
  omega
 ·simp only[Value.slice.injEq]at h1
  obtain⟨_,rfl,rfl⟩:=h1
  rw[List.length_append,good.flatten_length g]at hl
  exact Nat.le_of_mul_le_mul_right (by omega:xs.length*n≤cap*n) hn
end Go.Fx
namespace Go.Fx
open Go
section
variable{X:Cx}{ops:Array Oper}{nb:NB}{N:Act→World→Prop}{i:Nat}{os:List Oper}{Ls:List HProp}{ds:List Deferred}{ρ:Regs}{L:List HProp}{ty:TypeId}{d:Nat}
def setB(s:ByteArray)(m:Nat)(c:UInt8):ByteArray:=⟨(s.data.toList.set m c).toArray⟩
end
section
variable{X:Cx}{ops:Array Oper}{nb:NB}{N:Act→World→Prop}{i:Nat}{os:List Oper}{Ls:List HProp}{ds:List Deferred}{ρ:Regs}{L:List HProp}{ty:TypeId}{d:Nat}
end
end Go.Fx
namespace Go.Fx
open Go
section
variable{X:Cx}{ops:Array Oper}{nb:NB}{N:Act→World→Prop}{i:Nat}{os:List Oper}{Ls:List HProp}{ds:List Deferred}{ρ:Regs}{L:List HProp}{ty:TypeId}{d:Nat}
end
end Go.Fx
namespace Go.Fx
open Go
class KeyV(K:KT)(u:Value)(a:outParam K.α):Prop where
 eq:u=K.enc a
instance{s:ByteArray}:KeyV KStr (.string s) s:=⟨rfl⟩
instance{k:IntKind}{a:Int}:KeyV (KInt k) (.int k a) a:=⟨rfl⟩
section
variable{X:Cx}{ops:Array Oper}{nb:NB}{N:Act→World→Prop}{i:Nat}{os:List Oper}{Ls:List HProp}{ds:List Deferred}{ρ:Regs}{L:List HProp}{ty:TypeId}{d:Nat}
theorem a_lookupK [NoT nb]{mt kt et:Nat}{z:Value}{K:KT}[I:Mp X.P mt kt et][J:KeyT X.P kt K][Z:Zr X.P et z]{x y:Operand}{m:Nat}{a:K.α}{l:List (K.α×Value)}{ok:Bool}{o:Option Value}{u v:Value}
 (hx:ev ρ x= .map (some m))(hy:ev ρ y=u)(hk:KeyV K u a)(hm:MpIn K m l Ls)(ho:getK K a l=o)(hv:lookOf ok z o=v)(hd:Nat.blt d X.nt=true)(h:OpsL X ops nb N (i+1) os Ls ds (upd ρ d v) L):
 Op1 X ops nb N i (some d) (.lookup mt x y ok) ty os Ls ds ρ L:=a_lookup hx (hy.trans hk.eq) hm ho hv hd h
theorem s_mapUpdateK [NoT nb]{mt kt et:Nat}{K:KT}[I:Mp X.P mt kt et][J:KeyT X.P kt K]{x y z:Operand}{m:Nat}{a:K.α}{l:List (K.α×Value)}{u v:Value}{R:List HProp}
  (hx:ev ρ x= .map (some m))(hy:ev ρ y=u)(hk:KeyV K u a)(hz:ev ρ z=v)(hsel:Sel L (mapK K m l) R)(hb:nb.contains i=false)
  (h:OpsL X ops nb N (i+1) os (mapK K m (putK K a v l)::R) ds ρ (mapK K m (putK K a v l)::R)):Op1 X ops nb N i none (.mapUpdate mt x y z) ty os Ls ds ρ L:=
 s_mapUpdate hx (hy.trans hk.eq) hz hsel hb h
theorem s_deleteK [NoT nb]{mt kt et kt':Nat}{K:KT}[I:Mp X.P mt kt et][J:KeyT X.P kt K]{x y:Operand}{m:Nat}{a:K.α}{l:List (K.α×Value)}{u:Value}{R:List HProp}
  (hx:ev ρ x= .map (some m))(hy:ev ρ y=u)(hk:KeyV K u a)(hsel:Sel L (mapK K m l) R)(hb:nb.contains i=false)
  (h:OpsL X ops nb N (i+1) os (mapK K m (delK K a l)::R) ds ρ (mapK K m (delK K a l)::R)):Op1 X ops nb N i none (.call {callee:=.builtin .delete,args:= #[x,y],argTypes:= #[mt,kt']}) ty os Ls ds ρ L:=
 s_delete hx (hy.trans hk.eq) hsel hb h
theorem good_nil(n:Nat):good n []:=fun _ hx=>by cases hx
theorem s_buildSlice0 [NoT nb]{t e n by_:Nat}{zs:List Value}[I:Sl X.P t e n by_ zs](hd:Nat.blt d X.nt=true)(hnb:nb.contains i=false)
  (h:∀ v',v'.oneCell'=true→OpsL X ops nb N (i+1) os (row e n v' []::L) ds (upd ρ d v') (row e n v' []::L)):Op1 X ops nb N i (some d) (.buildSlice t 0 #[]) ty os Ls ds ρ L:=by
 refine op_eff (Y:=Value) (φ:=fun v'=>v'.oneCell'=true) (v:=fun v'=>v') (L':=fun v'=>row e n v' []::L) ?_ (fun _ e=>by cases e;exact hd) hnb h
 refine⟨(fun _ e=>by cases e),fun pos after gd=>⟨rfl,fun w hw=>?_⟩⟩
 obtain⟨ht,k,z,hk,hkz,rfl,rfl,hzc⟩:=I.get
 have hrun:(Instr.buildSlice t 0 #[]).run X.P w= .ok (.slice (some ⟨w.heap.size,0,none⟩) 0 0) (w.alloc (.cells #[] e)):=by
  have e1:Array.range 0=#[]:=by simp
  simp[Instr.buildSlice,run_underlying ht,sizeOf,typeInfo,hk,Instr.fill,newRow,e1]
 unfold OpVal
 have e0:(#[]:Array (Nat×Operand)).map (fun(i,x)=>(i,ev ρ x))=#[]:=by simp
 simp only[execOp,e0,Sem.run_bind,hrun,Result.andThen_ok,Sem.run_pure]
 exact⟨_,rfl,rfl,(hw.alloc (.cells #[] e)).map fun _ hh=>hh.headMono fun _ hp'=>⟨good_nil _,.inr ⟨w.heap.size,0,[],rfl,by simp,hp'⟩⟩⟩
theorem good.set{n:Nat}{xs:List (List Value)}(g:good n xs){m j:Nat}{y:List Value}{v:Value}(hy:xs[m]? =some y)(h1:v.oneCell'=true):good n (xs.set m (y.set j v)):=by
 intro u hu
 rcases List.mem_or_eq_of_mem_set hu with hu|rfl
 ·exact g u hu
 ·have gy:=g y (List.mem_of_getElem? hy)
  refine⟨by rw[List.length_set];exact gy.1,?_⟩
  have h2:=gy.2
  simp only[oneCells,List.all_eq_true]at h2 ⊢
  intro w hw
  rcases List.mem_or_eq_of_mem_set hw with hw|rfl
  ·exact h2 w hw
  ·exact h1
class FromBits(P:Program)(f:FuncId):Prop where
 call:∀ (n:Int) w,(callFunc f #[.int .u64 n]).run P w= .ok (.value (.float .f64 n.toNat)) w
end
end Go.Fx
namespace Go.Fx
open Go
theorem nilRow{e n:Nat}{L:List HProp}{h:Frag}(s:SatL L h):SatL (row e n (.slice none 0 0) []::L) h:=satL_emp (A:=row e n (.slice none 0 0) []) ⟨fun _ hx=>by simp at hx,.inl ⟨rfl,rfl⟩⟩ s
theorem rowShape{e n:Nat}{v:Value}{xs:List (List Value)}{L R:List HProp}(hn:0<n)(t:Take L [row e n v xs] R)(h:Frag)(s:SatL L h):(v= .slice none 0 0∧xs=[])∨∃ g cap,v= .slice (some ⟨g,0,none⟩) xs.length cap∧xs.length≤cap:=by
 obtain⟨_,_,_,_,_,⟨g,hr⟩,_⟩:=t.out s
 rcases hr with hr|⟨b,cap,rest,rfl,hl,_⟩
 ·exact .inl hr
 ·refine .inr ⟨b,cap,rfl,?_⟩
  rw[List.length_append,g.flatten_length]at hl
  exact Nat.le_of_mul_le_mul_right (by omega:xs.length*n≤cap*n) hn
def Ext(P P':HProp):Prop:=∀ h,P' h→∃ h',h'.le h∧P h'
theorem Ext.refl(P:HProp):Ext P P:=fun h hp=>⟨h,Frag.le.refl h,hp⟩
theorem Ext.trans{P P' P'':HProp}(a:Ext P P')(b:Ext P' P''):Ext P P'':=fun h hp=>by
 obtain⟨h1,l1,p1⟩:=b h hp
 obtain⟨h2,l2,p2⟩:=a h1 p1
 exact⟨h2,l2.trans l1,p2⟩
theorem Ext.vw{P P':HProp}(a:Ext P P'){n:Nat}{v:Value}{xs:List (List Value)}(h:Vw P n v xs):Vw P' n v xs:=fun f hf=>by
 obtain⟨h',l,p⟩:=a f hf
 exact(h h' p).mono l
def pool(A P:HProp):HProp:=fun h=>SatL [A,P] h
end Go.Fx
