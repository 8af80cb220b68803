/- Texts merged: SuS SuT. -/
import Derived.Test.YtmnafjonbeihiaaGreatDoorH36
import Derived.Test.YtmnafjonbeihiaaGreatDoorG15
import Derived.Test.YtmnafjonbeihiaaGreatDoorK3
import Derived.Test.YtmnafjonbeihiaaGreatDoorFwFv
import Derived.Test.YtmnafjonbeihiaaGreatDoorK8
import Derived.Test.YtmnafjonbeihiaaGreatDoorG3
import Derived.Lib.ValidLaws
set_option linter.unusedSimpArgs false
set_option linter.unusedVariables false
set_option maxRecDepth 100000
namespace Go.Pl
open Go
def nameB(s:BA):BA:=putRB [⟨5,0,0,s⟩]
def colB(s:BA)(c:Co):BA:=s++nameB c.name++⟨#[b8 c.kind,b8 (if c.null then 1 else 0)]⟩
def tabB(s:BA)(t:Tc):BA:=t.cols.foldl colB (s++nameB t.name++oneB t.cols.length)++⟨#[b8 t.key,b8 (t.ref+1),b8 (t.par+1)]⟩
def putSB(s:Sc):BA:=s.foldl tabB (oneB s.length)
theorem name_valid{s:BA}(h:nameS s=true):validS s=true∧s.size≤16:=by
 unfold nameS at h
 simp only[Bool.and_eq_true,decide_eq_true_eq,List.all_eq_true]at h
 refine⟨?_,h.2.2⟩
 unfold validS
 have hl:∀ b∈s.data.toList.take s.data.toList.length,b.toNat<128:=fun b hb=>by
  have h1:=h.1 b (List.mem_of_mem_take hb)
  unfold nameC at h1
  simp only[Bool.not_eq_true',Bool.and_eq_false_imp,Bool.or_eq_true,decide_eq_true_eq,Bool.or_eq_false_iff,decide_eq_false_iff_not]at h1
  rcases Nat.lt_or_ge b.toNat 128 with h2|h2
  ·exact h2
  ·have:=h1 (.inr (by omega))
   omega
 rw[Lib.validD_ascii _ _ hl,List.drop_length]
 rfl
theorem name_row{s:BA}(h:nameS s=true):rowB [⟨5,0,0,s⟩]=true∧(∀ v∈[(⟨5,0,0,s⟩:Vl)],v.wf):=by
 obtain⟨h1,h2⟩:=name_valid h
 constructor
 ·unfold rowB checkV wantV
  simp[h1]
  omega
 ·intro v hv
  rw[List.mem_singleton.1 hv]
  exact⟨show(0:Int)≤5 by decide,show(5:Int)≤255 by decide,show(-9223372036854775808:Int)≤0 by decide,show(0:Int)≤9223372036854775807 by decide,show(0:Int)≤0 by decide,show(0:Int)≤18446744073709551615 by decide,by show s.size≤_;omega⟩
theorem nameB_size{s:BA}(h:nameS s=true):(nameB s).size≤103:=by
 have h1:=(name_row h).1
 unfold rowB at h1
 simp only[Bool.and_eq_true,decide_eq_true_eq,List.all_eq_true]at h1
 have h2:=putLB_size h1.2.2 (oneB 1)
 unfold nameB putRB
 rw[oneB_size]at h2
 exact h2
structure TabN(t:Tc):Prop where
 name:nameS t.name=true
 cols:∀ c∈t.cols,nameS c.name=true∧1≤c.kind∧c.kind≤5
 len:t.cols.length≤8
 ref: -1≤t.ref∧t.ref≤8
 par: -1≤t.par∧t.par≤12
theorem tableS_n{ahead:Sc}{ds:List Int}{t:Tc}{d:Int}(ha:ahead.length≤12)(h:tableS ahead ds t=some d):((∀ c∈t.cols,nameS c.name=true∧1≤c.kind∧c.kind≤5)∧t.cols.length≤8)∧(-1≤t.ref∧t.ref≤8)∧(-1≤t.par∧t.par≤12):=by
 have hp:=tableS_par h
 have hk:=tableS_ok h
 have hk1:=hk.refL
 have hk2:=hk.len
 refine⟨?_,by omega,by omega⟩
 unfold tableS at h
 split at h
 ·cases h
 rename_i h1
 split at h
 ·cases h
 rename_i h2
 simp only[not_or]at h2
 refine⟨fun c hc=>?_,by omega⟩
 have h3:namedS (t.cols.map (·.name))=true:=by simpa using h2.2.2.1
 unfold namedS at h3
 simp only[Bool.and_eq_true,List.all_eq_true]at h3
 simp only[List.any_eq_true,not_exists,not_and,Bool.or_eq_true,decide_eq_true_eq,not_or]at h1
 have:=h1 c hc
 exact⟨h3.1 _ (List.mem_map_of_mem hc),by omega,by omega⟩
theorem goD_n:∀ {rest ahead:Sc} {ds out:List Int},ahead.length+rest.length≤12→goD ahead ds rest=some out→∀ t∈rest,((∀ c∈t.cols,nameS c.name=true∧1≤c.kind∧c.kind≤5)∧t.cols.length≤8)∧(-1≤t.ref∧t.ref≤8)∧(-1≤t.par∧t.par≤12)
 | [],_,_,_,_,_,t,ht=>by simp at ht
 |t::rest,ahead,ds,out,hl,h,u,hu=>by
  rw[List.length_cons]at hl
  unfold goD at h
  split at h
  ·cases h
  ·rename_i d hd
   rcases List.mem_cons.1 hu with rfl|hu
   ·exact tableS_n (by omega) hd
   ·exact goD_n (by rw[List.length_append,List.length_singleton];omega) h u hu
theorem checkS_n{s:Sc}(h:checkS s=true):(∀ t∈s,TabN t)∧s.length≤12:=by
 obtain⟨_,_,_,_,h12⟩:=checkS_ok h
 refine⟨fun t ht=>?_,h12⟩
 unfold checkS depthsS at h
 split at h
 ·simp at h
 split at h
 ·simp at h
 ·rename_i ds hd
  split at h
  ·rename_i hn
   unfold namedS at hn
   simp only[Bool.and_eq_true,List.all_eq_true]at hn
   obtain⟨⟨a,b⟩,c,d⟩:=goD_n (by simpa using h12) hd t ht
   exact⟨hn.1 _ (List.mem_map_of_mem ht),a,b,c,d⟩
  ·simp at h
theorem colB_size{s:BA}{c:Co}(h:nameS c.name=true):(colB s c).size≤s.size+105:=by
 have:=nameB_size h
 unfold colB
 rw[ByteArray.size_append,ByteArray.size_append]
 show s.size+(nameB c.name).size+2≤_
 omega
theorem cols_size:∀ (l:List Co) (s:BA),(∀ c∈l,nameS c.name=true)→(l.foldl colB s).size≤s.size+105*l.length
 | [],s,_=>by simp
 |c::l,s,h=>by
  have h1:=cols_size l (colB s c) (fun x hx=>h x (List.mem_cons_of_mem _ hx))
  have h2:=colB_size (s:=s) (h c (List.mem_cons_self ..))
  rw[List.foldl_cons,List.length_cons]
  omega
theorem tabB_size{s:BA}{t:Tc}(h:TabN t):(tabB s t).size≤s.size+950:=by
 have h1:=cols_size t.cols (s++nameB t.name++oneB t.cols.length) (fun c hc=>(h.cols c hc).1)
 have h2:=nameB_size h.name
 have h3:=h.len
 unfold tabB
 rw[ByteArray.size_append]
 rw[ByteArray.size_append,ByteArray.size_append,oneB_size]at h1
 show _+3≤_
 omega
theorem tabs_size:∀ (l:List Tc) (s:BA),(∀ t∈l,TabN t)→(l.foldl tabB s).size≤s.size+950*l.length
 | [],s,_=>by simp
 |t::l,s,h=>by
  have h1:=tabs_size l (tabB s t) (fun x hx=>h x (List.mem_cons_of_mem _ hx))
  have h2:=tabB_size (s:=s) (h t (List.mem_cons_self ..))
  rw[List.foldl_cons,List.length_cons]
  omega
theorem putSB_size{s:Sc}(h:checkS s=true):(putSB s).size≤11401:=by
 obtain⟨h1,h2⟩:=checkS_n h
 have:=tabs_size s (oneB s.length) h1
 rw[oneB_size]at this
 unfold putSB
 omega
theorem foldl_take_succ{α β:Type}(f:β→α→β)(a:β){l:List α}{i:Nat}(h:i<l.length):(l.take (i+1)).foldl f a=f ((l.take i).foldl f a) l[i]:=by
 rw[List.take_succ_eq_append_getElem h,List.foldl_append];rfl
end Go.Pl
namespace Go.Proofs.YtmnafjonbeihiaaGreatDoor
open Go Go.Fx Go.Proofs Go.Pl
theorem extS_satL{A P:HProp}{L:List HProp}{h:Frag}(a:Ext A P)(s:SatL (P::L) h):SatL (A::L) h:=by
 obtain⟨h1,h2,ha,l1,l2,hP,hL⟩:=s
 obtain⟨h',l',hA⟩:=a h1 hP
 exact⟨h',h2,ha.sub l' (.refl _),l'.trans l1,l2,hA,hL⟩
theorem fspecS_ext{P:Program}{f:FuncId}{args:List Value}{A:HProp}{ret:Value}(s:FSpec P f args [A] HProp (fun P'=>Ext A P') (fun _=>ret) (fun P'=>[P'])):FSpec P f args [A] Unit (fun _=>True) (fun _=>ret) (fun _=>[A]):=by
 intro w0 w R hs
 refine(s w0 w R hs).mono ?_
 rintro e w' ⟨y,hE,rfl,hs'⟩
 exact⟨(),trivial,rfl,hs'.map fun _ k=>extS_satL hE k⟩
theorem sText_spec(s:BA)(A:HProp)(hU:UT A)(h:nameS s=true):FSpec Tryz.prog 107 [.string s] [A] Unit (fun _=>True) (fun _=>.string (nameB s)) (fun _=>[A]):=by
 refine fspecS_ext ?_
 obtain⟨h1,h2⟩:=name_row h
 refine spec_intro [] _ Tryz.func107 rfl Tryz.ntmps107 (by rfl) (fun w0 R=>?_)
 repeat'(first|(refine gY ?_;intros)|(refine hY ?_ ?_<;>intro hgd)|(refine jY ?_ ?_<;>intro _)|fail)
 rename_i w hw
 refine ops_poolN (ty:=93) (n:=4) (v:=w) (xs:=[[.int .u8 5,.int .i64 0,.int .u64 0,.string s]]) (P:=A) takeD ?_
 intro P hE hv
 refine cl_Y (putRow_spec w P [⟨5,0,0,s⟩] (hU.ext hE) hv h2 h1) ?_
 intro _ _
 repeat'(first|(refine gY ?_;intros)|(refine hY ?_ ?_<;>intro hgd)|(refine jY ?_ ?_<;>intro _)|fail)
 (refine rt_Y (y:=P) (hrs:=Tryz.results107) (hv:=?_) (hφ:=?_))
 ·rfl
 ·exact hE
theorem b8_row(x:Int):[Value.int .u8 (IntKind.u8.wrap x)]=[Value.int .u8 ((b8 x).toNat:Int)]:=by
 have h:IntKind.u8.wrap x=x % 256:=rfl
 unfold b8
 rw[h]
 have:(UInt8.ofNat (x % 256).toNat).toNat=(x % 256).toNat:=by
  rw[UInt8.toNat_ofNat']
  omega
 rw[this]
 congr 2
 omega
theorem rowB1(x:Int):[[Value.int .u8 (IntKind.u8.wrap x)]]=bytesV (oneB x):=by rw[b8_row];rfl
theorem rowK{k:Int}(h0:0≤k)(h1:k≤255):[Value.int .u8 k]=[Value.int .u8 ((b8 k).toNat:Int)]:=by
 have e:k=IntKind.u8.wrap k:=by show k=k % 256;omega
 rw[← b8_row,← e]
theorem rowB21{k:Int}(h0:0≤k)(h1:k≤255):[[Value.int .u8 k],[Value.int .u8 1]]=bytesV ⟨#[b8 k,b8 1]⟩:=by rw[rowK h0 h1];rfl
theorem rowB20{k:Int}(h0:0≤k)(h1:k≤255):[[Value.int .u8 k],[Value.int .u8 0]]=bytesV ⟨#[b8 k,b8 0]⟩:=by rw[rowK h0 h1];rfl
theorem rowB3(x y z:Int):[[Value.int .u8 (IntKind.u8.wrap x)],[Value.int .u8 (IntKind.u8.wrap y)],[Value.int .u8 (IntKind.u8.wrap z)]]=bytesV ⟨#[b8 x,b8 y,b8 z]⟩:=by rw[b8_row,b8_row,b8_row];rfl
theorem rowB1c(x:Int):[(Value.int .u8 (IntKind.u8.wrap x)).cells.toList]=bytesV (oneB x):=rowB1 x
theorem rowB3c(x y z:Int):[(Value.int .u8 (IntKind.u8.wrap x)).cells.toList,(Value.int .u8 (IntKind.u8.wrap y)).cells.toList,(Value.int .u8 (IntKind.u8.wrap z)).cells.toList]=bytesV ⟨#[b8 x,b8 y,b8 z]⟩:=rowB3 x y z
set_option maxHeartbeats 64000000 in
theorem sPut_spec(vs:Value)(ts:List Tb)(A:HProp)(hU:UT A)(hsv:SV A vs ts)(hc:checkS (ts.map Tb.c)=true)(hvc:vs.oneCell'=true):
  FSpec Tryz.prog 61 [.agg #[vs]] [A] Unit (fun _=>True) (fun _=>.tuple #[.string (putSB (ts.map Tb.c)),.int .i64 0]) (fun _=>[A]):=by
 have hck:=sCheck_spec vs ts A hsv
 rw[hc,if_pos rfl]at hck
 obtain⟨hN,h12⟩:=checkS_n hc
 rw[List.length_map]at h12
 have lt:(ts.map tbV).length=ts.length:=by simp
 have e0:(!decide ((0:Int)=(0:Int)))=false:=rfl
 have hv:=hsv.vw
 refine fspec_lrn (fun R hh s=>(VwIn.slice (VwIn.here hv)) hh s) ?_
 rintro⟨pu,cu,rfl⟩
 refine spec_intro [183] _ Tryz.func61 rfl Tryz.ntmps61 (by rfl) (fun w0 R=>?_)
 repeat'(first|(refine gY ?_;intros)|(refine hY ?_ ?_<;>intro hgd)|(refine jY ?_ ?_<;>intro _)|fail)
 rename_i b1
 refine cl_Y (hck) ?_
 intro _ _
 repeat'(first|(refine gY ?_;intros)|(refine hY ?_ ?_<;>intro hgd)|(refine jY ?_ ?_<;>intro _)|fail)
 rename_i v0 hv0
 rw[rowB1c]
 refine ok_map (L':=[A,pts b1 (.cells [.slice pu (ts.map tbV).length cu].toArray 29),row 5 1 v0 (bytesV (((ts.map Tb.c).take 0).foldl tabB (oneB ((ts.map tbV).length:Int))))]++R) entD ?_
 refine ok_loop' (γ:=Nat×V1s) (fun g ρ L=>g.1≤ts.length∧Knows ρ [(1,.pointer (some ⟨b1,0,none⟩)),(5,g.2.1),(22,.slice pu (ts.map tbV).length cu),(23,.int .i64 ((ts.map tbV).length:Int)),(24,.int .i64 (g.1:Int))]∧
   L=[A,pts b1 (.cells [.slice pu (ts.map tbV).length cu].toArray 29),row 5 1 g.2.1 (bytesV (((ts.map Tb.c).take g.1).foldl tabB (oneB ((ts.map tbV).length:Int))))]++R) (fun g=>ts.length-g.1) (0,⟨v0,hv0⟩) ⟨Nat.zero_le _,⟨rfl,rfl,rfl,rfl,rfl,trivial⟩,rfl⟩ ?_
 rintro⟨i,⟨v5,hv5⟩⟩ ρ L ⟨hi,hk,rfl⟩
 dsimp only at hi hk ⊢
 refine ok_regs hk ?_
 have lC:(ts.map Tb.c).length=ts.length:=by simp
 have hTz:=tabs_size ((ts.map Tb.c).take i) (oneB ((ts.map tbV).length:Int)) (fun t ht=>hN t (List.mem_of_mem_take ht))
 rw[oneB_size,List.length_take]at hTz
 cases t1:decide ((i:Int)<((ts.map tbV).length:Int))with
 |false=>
  have hie:i=ts.length:=by have:=of_decide_eq_false t1;omega
  have hfin:((ts.map Tb.c).take i).foldl tabB (oneB ((ts.map tbV).length:Int))=putSB (ts.map Tb.c):=by
   rw[List.take_of_length_le (by omega)]
   unfold putSB
   rw[lt,lC]
  rw[hfin]at hTz ⊢
  generalize putSB (ts.map Tb.c)=S at hTz
  repeat'(first|(refine gY ?_;intros)|(refine hY ?_ ?_<;>intro hgd)|(refine jY ?_ ?_<;>intro _)|fail)
  (refine rt_Y (y:=()) (hrs:=Tryz.results61) (hv:=?_) (hφ:=?_))
  ·rfl
  ·trivial
 |true=>
  have h:i<ts.length:=by have:=of_decide_eq_true t1;omega
  have hx:(ts.map tbV)[i]? =some (tbV ts[i]):=by rw[List.getElem?_map,List.getElem?_eq_getElem h];rfl
  have hn1:i<(ts.map tbV).length:=by omega
  have htab:=hN _ (List.mem_map_of_mem (f:=Tb.c) (List.getElem_mem h))
  have hok:=hsv.tab _ (List.getElem_mem h)
  have hstep:((ts.map Tb.c).take (i+1)).foldl tabB (oneB ((ts.map tbV).length:Int))=tabB (((ts.map Tb.c).take i).foldl tabB (oneB ((ts.map tbV).length:Int))) ts[i].c:=by
   rw[foldl_take_succ _ _ (by omega),List.getElem_map]
  generalize ((ts.map Tb.c).take i).foldl tabB (oneB ((ts.map tbV).length:Int))=T at hTz hstep
  generalize ts[i]=t at hx htab hok hstep
  obtain⟨tn,cs,⟨tcv,htcv⟩,tk,tr,tp⟩:=t
  obtain⟨hnm,hcn,hcl,⟨hrf0,hrf1⟩,⟨hpa0,hpa1⟩⟩:=htab
  have hcv:=hok.vw
  dsimp only[Tb.c]at hnm hcn hcl hcv hstep hrf0 hrf1 hpa0 hpa1
  dsimp only[tbV]at hx
  have lc:(cs.map coV).length=cs.length:=by simp
  have ht8:=sText_spec tn A hU hnm
  have hnz:=nameB_size hnm
  refine ok_learn (VwIn.slice (VwIn.here hcv)) ?_
  rintro⟨pc,cc,rfl⟩
  refine ok_learn (VwIn.base (n:=5) (p:=pu) (len:=(ts.map tbV).length) (cap:=cu) (xs:=ts.map tbV) (VwIn.here hv) (by intro e;rw[e]at hn1;simp at hn1)) ?_
  rintro⟨bu,ou,rfl⟩
  have z1:=bytesV_len T
  have z2:=bytesV_len (nameB tn)
  have z3:=bytesV_len (T++nameB tn)
  have z4:(T++nameB tn).size=T.size+(nameB tn).size:=ByteArray.size_append
  repeat'(first|(refine gY ?_;intros)|(refine hY ?_ ?_<;>intro hgd)|(refine jY ?_ ?_<;>intro _)|fail)
  rename_i b7
  refine ok_meetE (γ:=V1s) (fun g ρ L=>Knows ρ [(1,.pointer (some ⟨b1,0,none⟩)),(7,.pointer (some ⟨b7,0,none⟩)),(22,.slice (some ⟨bu,ou,none⟩) (ts.map tbV).length cu),(23,.int .i64 ((ts.map tbV).length:Int)),(24,.int .i64 (i:Int)),(5,g.1)]∧
    L=[A,pts b1 (.cells [.slice (some ⟨bu,ou,none⟩) (ts.map tbV).length cu].toArray 29),pts b7 (.cells [.string tn,.slice pc (cs.map coV).length cc,.int .i64 tk,.int .i64 tr,.int .i64 tp].toArray 111),row 5 1 g.1 (bytesV (T++nameB tn++oneB ((cs.map coV).length:Int)))]++R) ?_ ?_
  ·refine ok_draw_node (cv:=[183]) 4 [3,4,9,10] [pts b7 (.cells [.string tn,.slice pc (cs.map coV).length cc,.int .i64 tk,.int .i64 tr,.int .i64 tp].toArray 111)] (by kernel_rfl) rfl (by decide +kernel) (by decide +kernel) (by decide +kernel) (takePre takeD) _ rfl ?_
   have d0:V1s:=⟨.slice none 0 0,rfl⟩
   refine node_have 0 [11] (γ:=V1s×V1s×V1s) (fun⟨⟨va,hva⟩,⟨vb,hvb⟩,⟨vc,hvc⟩⟩ ρ L=>Knows ρ [(1,.pointer (some ⟨b1,0,none⟩)),(7,.pointer (some ⟨b7,0,none⟩)),(22,.slice (some ⟨bu,ou,none⟩) (ts.map tbV).length cu),(23,.int .i64 ((ts.map tbV).length:Int)),(24,.int .i64 (i:Int)),(38,vc)]∧L=[A,pts b1 (.cells [.slice (some ⟨bu,ou,none⟩) (ts.map tbV).length cu].toArray 29),pts b7 (.cells [.string tn,.slice pc (cs.map coV).length cc,.int .i64 tk,.int .i64 tr,.int .i64 tp].toArray 111),row 5 1 vc (bytesV (T++nameB tn++oneB ((cs.map coV).length:Int)))]++R) ?_ ?_
   ·rintro⟨⟨va,hva⟩,⟨vb,hvb⟩,⟨vc,hvc⟩⟩ ρ L ⟨hk,rfl⟩
    refine cont_regs hk ?_
    refine cont_node0 (by decide +kernel) ?_
    repeat'(first|(refine gY ?_;intros)|fail)
    refine cont_map (L':=[A,pts b1 (.cells [.slice (some ⟨bu,ou,none⟩) (ts.map tbV).length cu].toArray 29),pts b7 (.cells [.string tn,.slice pc (cs.map coV).length cc,.int .i64 tk,.int .i64 tr,.int .i64 tp].toArray 111),row 5 1 vc (bytesV (T++nameB tn++oneB ((cs.map coV).length:Int)))]++R) entD ?_
    exact cont_meet ⟨vc,hvc⟩ ⟨⟨rfl,rfl,rfl,rfl,rfl,rfl,trivial⟩,rfl⟩
   intro n3_4_9_10
   refine node_have 1 [10,11] (γ:=V1s×V1s×V1s) (fun⟨⟨va,hva⟩,⟨vb,hvb⟩,⟨vc,hvc⟩⟩ ρ L=>Knows ρ [(1,.pointer (some ⟨b1,0,none⟩)),(7,.pointer (some ⟨b7,0,none⟩)),(22,.slice (some ⟨bu,ou,none⟩) (ts.map tbV).length cu),(23,.int .i64 ((ts.map tbV).length:Int)),(24,.int .i64 (i:Int)),(32,vb),(37,va)]∧L=[A,pts b1 (.cells [.slice (some ⟨bu,ou,none⟩) (ts.map tbV).length cu].toArray 29),pts b7 (.cells [.string tn,.slice pc (cs.map coV).length cc,.int .i64 tk,.int .i64 tr,.int .i64 tp].toArray 111),row 5 1 vb (bytesV (T++nameB tn)),row 5 1 va [[.int .u8 (IntKind.u8.wrap ((cs.map coV).length:Int))]]]++R) ?_ ?_
   ·rintro⟨⟨va,hva⟩,⟨vb,hvb⟩,⟨vc,hvc⟩⟩ ρ L ⟨hk,rfl⟩
    refine cont_regs hk ?_
    refine cont_node [183] [(10,[10],[11])] rfl (by decide +kernel) ?_
    refine nodeE1 ?_
    ·dsimp only[List.length_cons,List.length_nil]
     repeat'(first|(refine gY ?_;intros)|fail)
     rename_i w hw
     rw[rowB1,bytesV_app]
     refine cont_map (L':=[A,pts b1 (.cells [.slice (some ⟨bu,ou,none⟩) (ts.map tbV).length cu].toArray 29),pts b7 (.cells [.string tn,.slice pc (cs.map coV).length cc,.int .i64 tk,.int .i64 tr,.int .i64 tp].toArray 111),row 5 1 w (bytesV (T++nameB tn++oneB ((cs.map coV).length:Int)))]++R) entD ?_
     exact n3_4_9_10 ⟨⟨va,hva⟩,⟨vb,hvb⟩,⟨w,hw⟩⟩ _ _ ⟨⟨rfl,rfl,rfl,rfl,rfl,rfl,trivial⟩,rfl⟩
   intro n3_4_9
   refine node_have 2 [5,6,7,8,9,10,11] (γ:=V1s×V1s×V1s) (fun⟨⟨va,hva⟩,⟨vb,hvb⟩,⟨vc,hvc⟩⟩ ρ L=>Knows ρ [(1,.pointer (some ⟨b1,0,none⟩)),(7,.pointer (some ⟨b7,0,none⟩)),(22,.slice (some ⟨bu,ou,none⟩) (ts.map tbV).length cu),(23,.int .i64 ((ts.map tbV).length:Int)),(24,.int .i64 (i:Int)),(32,vb)]∧L=[A,pts b1 (.cells [.slice (some ⟨bu,ou,none⟩) (ts.map tbV).length cu].toArray 29),pts b7 (.cells [.string tn,.slice pc (cs.map coV).length cc,.int .i64 tk,.int .i64 tr,.int .i64 tp].toArray 111),row 5 1 vb (bytesV (T++nameB tn))]++R) ?_ ?_
   ·rintro⟨⟨va,hva⟩,⟨vb,hvb⟩,⟨vc,hvc⟩⟩ ρ L ⟨hk,rfl⟩
    refine cont_regs hk ?_
    refine cont_node [183] [(9,[5,6,7,8,9],[10,11])] rfl (by decide +kernel) ?_
    refine nodeE1 ?_
    ·dsimp only[List.length_cons,List.length_nil]
     repeat'(first|(refine gY ?_;intros)|fail)
     rename_i w hw
     refine cont_map (L':=[A,pts b1 (.cells [.slice (some ⟨bu,ou,none⟩) (ts.map tbV).length cu].toArray 29),pts b7 (.cells [.string tn,.slice pc (cs.map coV).length cc,.int .i64 tk,.int .i64 tr,.int .i64 tp].toArray 111),row 5 1 vb (bytesV (T++nameB tn)),row 5 1 w [[.int .u8 (IntKind.u8.wrap ((cs.map coV).length:Int))]]]++R) entD ?_
     exact n3_4_9 ⟨⟨w,hw⟩,⟨vb,hvb⟩,⟨vc,hvc⟩⟩ _ _ ⟨⟨rfl,rfl,rfl,rfl,rfl,rfl,rfl,trivial⟩,rfl⟩
   intro n3_4
   refine node_have 2 [0,4,10,11] (γ:=V1s×V1s×V1s) (fun⟨⟨va,hva⟩,⟨vb,hvb⟩,⟨vc,hvc⟩⟩ ρ L=>Knows ρ [(1,.pointer (some ⟨b1,0,none⟩)),(7,.pointer (some ⟨b7,0,none⟩)),(22,.slice (some ⟨bu,ou,none⟩) (ts.map tbV).length cu),(23,.int .i64 ((ts.map tbV).length:Int)),(24,.int .i64 (i:Int)),(31,.string (nameB tn)),(37,va),(5,v5)]∧L=[A,pts b1 (.cells [.slice (some ⟨bu,ou,none⟩) (ts.map tbV).length cu].toArray 29),pts b7 (.cells [.string tn,.slice pc (cs.map coV).length cc,.int .i64 tk,.int .i64 tr,.int .i64 tp].toArray 111),row 5 1 v5 (bytesV T),row 5 1 va [[.int .u8 (IntKind.u8.wrap ((cs.map coV).length:Int))]]]++R) ?_ ?_
   ·rintro⟨⟨va,hva⟩,⟨vb,hvb⟩,⟨vc,hvc⟩⟩ ρ L ⟨hk,rfl⟩
    refine cont_regs hk ?_
    refine cont_node [183] [(4,[0,4],[10,11])] rfl (by decide +kernel) ?_
    refine nodeE1 ?_
    ·dsimp only[List.length_cons,List.length_nil]
     repeat'(first|(refine gY ?_;intros)|fail)
     refine ops_run (s_append_str_nb rfl rfl rfl (by repeat(first|exact Sel.here|apply Sel.there)) (by simp only[bytesV_len];omega) (by simp only[bytesV_len];omega) rfl (takePre takeD) ?_)
     intro w hw
     repeat'(first|(refine gY ?_;intros)|fail)
     rw[bytesV_app]
     refine cont_map (L':=[A,pts b1 (.cells [.slice (some ⟨bu,ou,none⟩) (ts.map tbV).length cu].toArray 29),pts b7 (.cells [.string tn,.slice pc (cs.map coV).length cc,.int .i64 tk,.int .i64 tr,.int .i64 tp].toArray 111),row 5 1 w (bytesV (T++nameB tn)),row 5 1 va [[.int .u8 (IntKind.u8.wrap ((cs.map coV).length:Int))]]]++R) entD ?_
     exact n3_4_9 ⟨⟨va,hva⟩,⟨w,hw⟩,⟨vc,hvc⟩⟩ _ _ ⟨⟨rfl,rfl,rfl,rfl,rfl,rfl,rfl,trivial⟩,rfl⟩
   intro n3_9
   refine node_have 3 [0,4,5,6,7,8,9,10,11] (γ:=V1s×V1s×V1s) (fun⟨⟨va,hva⟩,⟨vb,hvb⟩,⟨vc,hvc⟩⟩ ρ L=>Knows ρ [(1,.pointer (some ⟨b1,0,none⟩)),(7,.pointer (some ⟨b7,0,none⟩)),(22,.slice (some ⟨bu,ou,none⟩) (ts.map tbV).length cu),(23,.int .i64 ((ts.map tbV).length:Int)),(24,.int .i64 (i:Int)),(31,.string (nameB tn)),(5,v5)]∧L=[A,pts b1 (.cells [.slice (some ⟨bu,ou,none⟩) (ts.map tbV).length cu].toArray 29),pts b7 (.cells [.string tn,.slice pc (cs.map coV).length cc,.int .i64 tk,.int .i64 tr,.int .i64 tp].toArray 111),row 5 1 v5 (bytesV T)]++R) ?_ ?_
   ·rintro⟨⟨va,hva⟩,⟨vb,hvb⟩,⟨vc,hvc⟩⟩ ρ L ⟨hk,rfl⟩
    refine cont_regs hk ?_
    refine cont_node [183] [(4,[0,4],[5,6,7,8,9,10,11]),(9,[5,6,7,8,9],[0,4,10,11])] rfl (by decide +kernel) ?_
    refine nodeE2 ?_ ?_
    ·dsimp only[List.length_cons,List.length_nil]
     repeat'(first|(refine gY ?_;intros)|fail)
     refine ops_run (s_append_str_nb rfl rfl rfl (by repeat(first|exact Sel.here|apply Sel.there)) (by simp only[bytesV_len];omega) (by simp only[bytesV_len];omega) rfl (takePre takeD) ?_)
     intro w hw
     repeat'(first|(refine gY ?_;intros)|fail)
     rw[bytesV_app]
     refine cont_map (L':=[A,pts b1 (.cells [.slice (some ⟨bu,ou,none⟩) (ts.map tbV).length cu].toArray 29),pts b7 (.cells [.string tn,.slice pc (cs.map coV).length cc,.int .i64 tk,.int .i64 tr,.int .i64 tp].toArray 111),row 5 1 w (bytesV (T++nameB tn))]++R) entD ?_
     exact n3_4 ⟨⟨va,hva⟩,⟨w,hw⟩,⟨vc,hvc⟩⟩ _ _ ⟨⟨rfl,rfl,rfl,rfl,rfl,rfl,trivial⟩,rfl⟩
    ·dsimp only[List.length_cons,List.length_nil]
     repeat'(first|(refine gY ?_;intros)|fail)
     rename_i w hw
     refine cont_map (L':=[A,pts b1 (.cells [.slice (some ⟨bu,ou,none⟩) (ts.map tbV).length cu].toArray 29),pts b7 (.cells [.string tn,.slice pc (cs.map coV).length cc,.int .i64 tk,.int .i64 tr,.int .i64 tp].toArray 111),row 5 1 v5 (bytesV T),row 5 1 w [[.int .u8 (IntKind.u8.wrap ((cs.map coV).length:Int))]]]++R) entD ?_
     exact n3_9 ⟨⟨w,hw⟩,⟨vb,hvb⟩,⟨vc,hvc⟩⟩ _ _ ⟨⟨rfl,rfl,rfl,rfl,rfl,rfl,rfl,rfl,trivial⟩,rfl⟩
   intro n3
   refine node_have 3 [0,1,2,3,4,10,11] (γ:=V1s×V1s×V1s) (fun⟨⟨va,hva⟩,⟨vb,hvb⟩,⟨vc,hvc⟩⟩ ρ L=>Knows ρ [(1,.pointer (some ⟨b1,0,none⟩)),(7,.pointer (some ⟨b7,0,none⟩)),(22,.slice (some ⟨bu,ou,none⟩) (ts.map tbV).length cu),(23,.int .i64 ((ts.map tbV).length:Int)),(24,.int .i64 (i:Int)),(37,va),(5,v5)]∧L=[A,pts b1 (.cells [.slice (some ⟨bu,ou,none⟩) (ts.map tbV).length cu].toArray 29),pts b7 (.cells [.string tn,.slice pc (cs.map coV).length cc,.int .i64 tk,.int .i64 tr,.int .i64 tp].toArray 111),row 5 1 v5 (bytesV T),row 5 1 va [[.int .u8 (IntKind.u8.wrap ((cs.map coV).length:Int))]]]++R) ?_ ?_
   ·rintro⟨⟨va,hva⟩,⟨vb,hvb⟩,⟨vc,hvc⟩⟩ ρ L ⟨hk,rfl⟩
    refine cont_regs hk ?_
    refine cont_node [183] [(3,[1,2,3],[0,4,10,11])] rfl (by decide +kernel) ?_
    refine nodeE1 ?_
    ·dsimp only[List.length_cons,List.length_nil]
     repeat'(first|(refine gY ?_;intros)|fail)
     refine clN_Y (ht8) ?_
     intro _ _
     repeat'(first|(refine gY ?_;intros)|fail)
     refine cont_map (L':=[A,pts b1 (.cells [.slice (some ⟨bu,ou,none⟩) (ts.map tbV).length cu].toArray 29),pts b7 (.cells [.string tn,.slice pc (cs.map coV).length cc,.int .i64 tk,.int .i64 tr,.int .i64 tp].toArray 111),row 5 1 v5 (bytesV T),row 5 1 va [[.int .u8 (IntKind.u8.wrap ((cs.map coV).length:Int))]]]++R) entD ?_
     exact n3_9 ⟨⟨va,hva⟩,⟨vb,hvb⟩,⟨vc,hvc⟩⟩ _ _ ⟨⟨rfl,rfl,rfl,rfl,rfl,rfl,rfl,rfl,trivial⟩,rfl⟩
   intro n9
   refine cont_node [183] [(3,[1,2,3],[0,4,5,6,7,8,9,10,11]),(9,[5,6,7,8,9],[0,1,2,3,4,10,11])] rfl (by decide +kernel) ?_
   refine nodeE2 ?_ ?_
   ·dsimp only[List.length_cons,List.length_nil]
    repeat'(first|(refine gY ?_;intros)|fail)
    refine clN_Y (ht8) ?_
    intro _ _
    repeat'(first|(refine gY ?_;intros)|fail)
    refine cont_map (L':=[A,pts b1 (.cells [.slice (some ⟨bu,ou,none⟩) (ts.map tbV).length cu].toArray 29),pts b7 (.cells [.string tn,.slice pc (cs.map coV).length cc,.int .i64 tk,.int .i64 tr,.int .i64 tp].toArray 111),row 5 1 v5 (bytesV T)]++R) entD ?_
    exact n3 ⟨d0,d0,d0⟩ _ _ ⟨⟨rfl,rfl,rfl,rfl,rfl,rfl,rfl,trivial⟩,rfl⟩
   ·dsimp only[List.length_cons,List.length_nil]
    repeat'(first|(refine gY ?_;intros)|fail)
    rename_i w hw
    refine cont_map (L':=[A,pts b1 (.cells [.slice (some ⟨bu,ou,none⟩) (ts.map tbV).length cu].toArray 29),pts b7 (.cells [.string tn,.slice pc (cs.map coV).length cc,.int .i64 tk,.int .i64 tr,.int .i64 tp].toArray 111),row 5 1 v5 (bytesV T),row 5 1 w [[.int .u8 (IntKind.u8.wrap ((cs.map coV).length:Int))]]]++R) entD ?_
    exact n9 ⟨⟨w,hw⟩,d0,d0⟩ _ _ ⟨⟨rfl,rfl,rfl,rfl,rfl,rfl,rfl,trivial⟩,rfl⟩
  rintro⟨v6,hv6⟩ ρ L ⟨hk,rfl⟩
  refine cont_regs hk ?_
  have hU0:(T++nameB tn++oneB ((cs.map coV).length:Int)).size=T.size+(nameB tn).size+1:=by rw[ByteArray.size_append,z4,oneB_size]
  generalize hgU:T++nameB tn++oneB ((cs.map coV).length:Int)=U0 at hU0
  have hstep':((ts.map Tb.c).take (i+1)).foldl tabB (oneB ((ts.map tbV).length:Int))=cs.foldl colB U0++⟨#[b8 tk,b8 (tr+1),b8 (tp+1)]⟩:=by
   rw[hstep]
   unfold tabB
   dsimp only
   rw[show(oneB (cs.length:Int))=oneB ((cs.map coV).length:Int)by rw[lc],hgU]
  clear z1 z2 z3 z4 ht8 hstep
  repeat'(first|(refine gY ?_;intros)|(refine hY ?_ ?_<;>intro hgd)|(refine jY ?_ ?_<;>intro _)|fail)
  refine ok_map (L':=[A,pts b1 (.cells [.slice (some ⟨bu,ou,none⟩) (ts.map tbV).length cu].toArray 29),pts b7 (.cells [.string tn,.slice pc (cs.map coV).length cc,.int .i64 tk,.int .i64 tr,.int .i64 tp].toArray 111),row 5 1 v6 (bytesV ((cs.take 0).foldl colB U0))]++R) entD ?_
  refine ok_loop' (γ:=Nat×V1s) (fun g ρ L=>g.1≤cs.length∧Knows ρ [(1,.pointer (some ⟨b1,0,none⟩)),(7,.pointer (some ⟨b7,0,none⟩)),(22,.slice (some ⟨bu,ou,none⟩) (ts.map tbV).length cu),(23,.int .i64 ((ts.map tbV).length:Int)),(24,.int .i64 (i:Int)),(5,g.2.1),(40,.slice pc (cs.map coV).length cc),(41,.int .i64 ((cs.map coV).length:Int)),(42,.int .i64 (g.1:Int))]∧
    L=[A,pts b1 (.cells [.slice (some ⟨bu,ou,none⟩) (ts.map tbV).length cu].toArray 29),pts b7 (.cells [.string tn,.slice pc (cs.map coV).length cc,.int .i64 tk,.int .i64 tr,.int .i64 tp].toArray 111),row 5 1 g.2.1 (bytesV ((cs.take g.1).foldl colB U0))]++R) (fun g=>cs.length-g.1) (0,⟨v6,hv6⟩) ⟨Nat.zero_le _,⟨rfl,rfl,rfl,rfl,rfl,rfl,rfl,rfl,rfl,trivial⟩,rfl⟩ ?_
  rintro⟨j,⟨v5,hv5⟩⟩ ρ L ⟨hj,hk,rfl⟩
  dsimp only at hj hk ⊢
  refine ok_regs hk ?_
  have hUz:=cols_size (cs.take j) U0 (fun c hc=>(hcn c (List.mem_of_mem_take hc)).1)
  rw[List.length_take]at hUz
  cases t2:decide ((j:Int)<((cs.map coV).length:Int))with
  |false=>
   have hje:j=cs.length:=by have:=of_decide_eq_false t2;omega
   have hfj:(cs.take j).foldl colB U0=cs.foldl colB U0:=by rw[hje,List.take_length]
   rw[hfj]at hUz ⊢
   generalize cs.foldl colB U0=U at hUz hstep'
   have z1:=bytesV_len U
   repeat'(first|(refine gY ?_;intros)|(refine hY ?_ ?_<;>intro hgd)|(refine jY ?_ ?_<;>intro _)|fail)
   rename_i v7 hv7
   rw[rowB3c,bytesV_app,← hstep']
   refine cont_map (L':=[A,pts b1 (.cells [.slice (some ⟨bu,ou,none⟩) (ts.map tbV).length cu].toArray 29),row 5 1 v7 (bytesV (((ts.map Tb.c).take (i+1)).foldl tabB (oneB ((ts.map tbV).length:Int))))]++R) entD ?_
   exact cont_back (i+1,⟨v7,hv7⟩) ⟨h,⟨rfl,rfl,rfl,rfl,rfl,trivial⟩,rfl⟩ (by dsimp only;omega)
  |true=>
   have hj0:j<cs.length:=by have:=of_decide_eq_true t2;omega
   have hy:(cs.map coV)[j]? =some (coV cs[j]):=by rw[List.getElem?_map,List.getElem?_eq_getElem hj0];rfl
   have hn2:j<(cs.map coV).length:=by omega
   obtain⟨hc1,hc2,hc3⟩:=hcn _ (List.getElem_mem hj0)
   have hst:((cs.take (j+1)).foldl colB U0)=colB ((cs.take j).foldl colB U0) cs[j]:=foldl_take_succ _ _ hj0
   generalize (cs.take j).foldl colB U0=U at hUz hst
   generalize cs[j]=c at hy hc1 hc2 hc3 hst
   obtain⟨cn,ck,cl⟩:=c
   dsimp only at hc1 hc2 hc3
   dsimp only[coV]at hy
   have k0:0≤ck:=by omega
   have k1:ck≤255:=by omega
   have ht15:=sText_spec cn A hU hc1
   have hcz:=nameB_size hc1
   refine ok_learn (VwIn.base (n:=3) (p:=pc) (len:=(cs.map coV).length) (cap:=cc) (xs:=cs.map coV) (VwIn.here hcv) (by intro e;rw[e]at hn2;simp at hn2)) ?_
   rintro⟨bc,oc,rfl⟩
   have z1:=bytesV_len U
   have z2:=bytesV_len (nameB cn)
   have z3:=bytesV_len (U++nameB cn)
   have z4:(U++nameB cn).size=U.size+(nameB cn).size:=ByteArray.size_append
   cases cl with
   |true=>
    have hcs:((cs.take (j+1)).foldl colB U0)=U++nameB cn++⟨#[b8 ck,b8 1]⟩:=hst
    repeat'(first|(refine gY ?_;intros)|(refine hY ?_ ?_<;>intro hgd)|(refine jY ?_ ?_<;>intro _)|fail)
    rename_i b9
    refine ok_meetE (γ:=V1s) (fun g ρ L=>Knows ρ [(1,.pointer (some ⟨b1,0,none⟩)),(7,.pointer (some ⟨b7,0,none⟩)),(22,.slice (some ⟨bu,ou,none⟩) (ts.map tbV).length cu),(23,.int .i64 ((ts.map tbV).length:Int)),(24,.int .i64 (i:Int)),(5,g.1),(40,.slice (some ⟨bc,oc,none⟩) (cs.map coV).length cc),(41,.int .i64 ((cs.map coV).length:Int)),(42,.int .i64 (j:Int))]∧
      L=[A,pts b1 (.cells [.slice (some ⟨bu,ou,none⟩) (ts.map tbV).length cu].toArray 29),pts b7 (.cells [.string tn,.slice (some ⟨bc,oc,none⟩) (cs.map coV).length cc,.int .i64 tk,.int .i64 tr,.int .i64 tp].toArray 111),row 5 1 g.1 (bytesV (U++nameB cn++⟨#[b8 ck,b8 1]⟩))]++R) ?_ ?_
    ·refine ok_draw_node (cv:=[183]) 4 [3,4,8,9] [pts b9 (.cells [.string cn,.int .u8 ck,.bool true].toArray 163)] (by kernel_rfl) rfl (by decide +kernel) (by decide +kernel) (by decide +kernel) (takePre takeD) _ rfl ?_
     have d0:V1s:=⟨.slice none 0 0,rfl⟩
     refine node_have 0 [10] (γ:=V1s×V1s×V1s) (fun⟨⟨va,hva⟩,⟨vb,hvb⟩,⟨vc,hvc⟩⟩ ρ L=>Knows ρ [(1,.pointer (some ⟨b1,0,none⟩)),(7,.pointer (some ⟨b7,0,none⟩)),(22,.slice (some ⟨bu,ou,none⟩) (ts.map tbV).length cu),(23,.int .i64 ((ts.map tbV).length:Int)),(24,.int .i64 (i:Int)),(9,.pointer (some ⟨b9,0,none⟩)),(10,.int .u8 1),(40,.slice (some ⟨bc,oc,none⟩) (cs.map coV).length cc),(41,.int .i64 ((cs.map coV).length:Int)),(42,.int .i64 (j:Int)),(57,vc)]∧L=[A,pts b1 (.cells [.slice (some ⟨bu,ou,none⟩) (ts.map tbV).length cu].toArray 29),pts b7 (.cells [.string tn,.slice (some ⟨bc,oc,none⟩) (cs.map coV).length cc,.int .i64 tk,.int .i64 tr,.int .i64 tp].toArray 111),pts b9 (.cells [.string cn,.int .u8 ck,.bool true].toArray 163),row 5 1 vc (bytesV (U++nameB cn++⟨#[b8 ck,b8 1]⟩))]++R) ?_ ?_
     ·rintro⟨⟨va,hva⟩,⟨vb,hvb⟩,⟨vc,hvc⟩⟩ ρ L ⟨hk,rfl⟩
      refine cont_regs hk ?_
      refine cont_node0 (by decide +kernel) ?_
      repeat'(first|(refine gY ?_;intros)|fail)
      refine cont_map (L':=[A,pts b1 (.cells [.slice (some ⟨bu,ou,none⟩) (ts.map tbV).length cu].toArray 29),pts b7 (.cells [.string tn,.slice (some ⟨bc,oc,none⟩) (cs.map coV).length cc,.int .i64 tk,.int .i64 tr,.int .i64 tp].toArray 111),row 5 1 vc (bytesV (U++nameB cn++⟨#[b8 ck,b8 1]⟩))]++R) entD ?_
      exact cont_meet ⟨vc,hvc⟩ ⟨⟨rfl,rfl,rfl,rfl,rfl,rfl,rfl,rfl,rfl,trivial⟩,rfl⟩
     intro n3_4_8_9
     refine node_have 1 [9,10] (γ:=V1s×V1s×V1s) (fun⟨⟨va,hva⟩,⟨vb,hvb⟩,⟨vc,hvc⟩⟩ ρ L=>Knows ρ [(1,.pointer (some ⟨b1,0,none⟩)),(7,.pointer (some ⟨b7,0,none⟩)),(22,.slice (some ⟨bu,ou,none⟩) (ts.map tbV).length cu),(23,.int .i64 ((ts.map tbV).length:Int)),(24,.int .i64 (i:Int)),(9,.pointer (some ⟨b9,0,none⟩)),(10,.int .u8 1),(40,.slice (some ⟨bc,oc,none⟩) (cs.map coV).length cc),(41,.int .i64 ((cs.map coV).length:Int)),(42,.int .i64 (j:Int)),(52,vb),(56,va)]∧L=[A,pts b1 (.cells [.slice (some ⟨bu,ou,none⟩) (ts.map tbV).length cu].toArray 29),pts b7 (.cells [.string tn,.slice (some ⟨bc,oc,none⟩) (cs.map coV).length cc,.int .i64 tk,.int .i64 tr,.int .i64 tp].toArray 111),pts b9 (.cells [.string cn,.int .u8 ck,.bool true].toArray 163),row 5 1 vb (bytesV (U++nameB cn)),row 5 1 va [[.int .u8 ck],[.int .u8 1]]]++R) ?_ ?_
     ·rintro⟨⟨va,hva⟩,⟨vb,hvb⟩,⟨vc,hvc⟩⟩ ρ L ⟨hk,rfl⟩
      refine cont_regs hk ?_
      refine cont_node [183] [(9,[9],[10])] rfl (by decide +kernel) ?_
      refine nodeE1 ?_
      ·dsimp only[List.length_cons,List.length_nil]
       repeat'(first|(refine gY ?_;intros)|fail)
       rename_i w hw
       rw[rowB21 k0 k1,bytesV_app]
       refine cont_map (L':=[A,pts b1 (.cells [.slice (some ⟨bu,ou,none⟩) (ts.map tbV).length cu].toArray 29),pts b7 (.cells [.string tn,.slice (some ⟨bc,oc,none⟩) (cs.map coV).length cc,.int .i64 tk,.int .i64 tr,.int .i64 tp].toArray 111),pts b9 (.cells [.string cn,.int .u8 ck,.bool true].toArray 163),row 5 1 w (bytesV (U++nameB cn++⟨#[b8 ck,b8 1]⟩))]++R) entD ?_
       exact n3_4_8_9 ⟨⟨va,hva⟩,⟨vb,hvb⟩,⟨w,hw⟩⟩ _ _ ⟨⟨rfl,rfl,rfl,rfl,rfl,rfl,rfl,rfl,rfl,rfl,rfl,trivial⟩,rfl⟩
     intro n3_4_8
     refine node_have 2 [5,6,7,8,9,10] (γ:=V1s×V1s×V1s) (fun⟨⟨va,hva⟩,⟨vb,hvb⟩,⟨vc,hvc⟩⟩ ρ L=>Knows ρ [(1,.pointer (some ⟨b1,0,none⟩)),(7,.pointer (some ⟨b7,0,none⟩)),(22,.slice (some ⟨bu,ou,none⟩) (ts.map tbV).length cu),(23,.int .i64 ((ts.map tbV).length:Int)),(24,.int .i64 (i:Int)),(9,.pointer (some ⟨b9,0,none⟩)),(10,.int .u8 1),(40,.slice (some ⟨bc,oc,none⟩) (cs.map coV).length cc),(41,.int .i64 ((cs.map coV).length:Int)),(42,.int .i64 (j:Int)),(52,vb)]∧L=[A,pts b1 (.cells [.slice (some ⟨bu,ou,none⟩) (ts.map tbV).length cu].toArray 29),pts b7 (.cells [.string tn,.slice (some ⟨bc,oc,none⟩) (cs.map coV).length cc,.int .i64 tk,.int .i64 tr,.int .i64 tp].toArray 111),pts b9 (.cells [.string cn,.int .u8 ck,.bool true].toArray 163),row 5 1 vb (bytesV (U++nameB cn))]++R) ?_ ?_
     ·rintro⟨⟨va,hva⟩,⟨vb,hvb⟩,⟨vc,hvc⟩⟩ ρ L ⟨hk,rfl⟩
      refine cont_regs hk ?_
      refine cont_node [183] [(8,[5,6,7,8],[9,10])] rfl (by decide +kernel) ?_
      refine nodeE1 ?_
      ·dsimp only[List.length_cons,List.length_nil]
       repeat'(first|(refine gY ?_;intros)|fail)
       rename_i w hw
       refine cont_map (L':=[A,pts b1 (.cells [.slice (some ⟨bu,ou,none⟩) (ts.map tbV).length cu].toArray 29),pts b7 (.cells [.string tn,.slice (some ⟨bc,oc,none⟩) (cs.map coV).length cc,.int .i64 tk,.int .i64 tr,.int .i64 tp].toArray 111),pts b9 (.cells [.string cn,.int .u8 ck,.bool true].toArray 163),row 5 1 vb (bytesV (U++nameB cn)),row 5 1 w [[.int .u8 ck],[.int .u8 1]]]++R) entD ?_
       exact n3_4_8 ⟨⟨w,hw⟩,⟨vb,hvb⟩,⟨vc,hvc⟩⟩ _ _ ⟨⟨rfl,rfl,rfl,rfl,rfl,rfl,rfl,rfl,rfl,rfl,rfl,rfl,trivial⟩,rfl⟩
     intro n3_4
     refine node_have 2 [0,4,9,10] (γ:=V1s×V1s×V1s) (fun⟨⟨va,hva⟩,⟨vb,hvb⟩,⟨vc,hvc⟩⟩ ρ L=>Knows ρ [(1,.pointer (some ⟨b1,0,none⟩)),(7,.pointer (some ⟨b7,0,none⟩)),(22,.slice (some ⟨bu,ou,none⟩) (ts.map tbV).length cu),(23,.int .i64 ((ts.map tbV).length:Int)),(24,.int .i64 (i:Int)),(9,.pointer (some ⟨b9,0,none⟩)),(10,.int .u8 1),(40,.slice (some ⟨bc,oc,none⟩) (cs.map coV).length cc),(41,.int .i64 ((cs.map coV).length:Int)),(42,.int .i64 (j:Int)),(51,.string (nameB cn)),(56,va),(5,v5)]∧L=[A,pts b1 (.cells [.slice (some ⟨bu,ou,none⟩) (ts.map tbV).length cu].toArray 29),pts b7 (.cells [.string tn,.slice (some ⟨bc,oc,none⟩) (cs.map coV).length cc,.int .i64 tk,.int .i64 tr,.int .i64 tp].toArray 111),pts b9 (.cells [.string cn,.int .u8 ck,.bool true].toArray 163),row 5 1 v5 (bytesV U),row 5 1 va [[.int .u8 ck],[.int .u8 1]]]++R) ?_ ?_
     ·rintro⟨⟨va,hva⟩,⟨vb,hvb⟩,⟨vc,hvc⟩⟩ ρ L ⟨hk,rfl⟩
      refine cont_regs hk ?_
      refine cont_node [183] [(4,[0,4],[9,10])] rfl (by decide +kernel) ?_
      refine nodeE1 ?_
      ·dsimp only[List.length_cons,List.length_nil]
       repeat'(first|(refine gY ?_;intros)|fail)
       refine ops_run (s_append_str_nb rfl rfl rfl (by repeat(first|exact Sel.here|apply Sel.there)) (by simp only[bytesV_len];omega) (by simp only[bytesV_len];omega) rfl (takePre takeD) ?_)
       intro w hw
       repeat'(first|(refine gY ?_;intros)|fail)
       rw[bytesV_app]
       refine cont_map (L':=[A,pts b1 (.cells [.slice (some ⟨bu,ou,none⟩) (ts.map tbV).length cu].toArray 29),pts b7 (.cells [.string tn,.slice (some ⟨bc,oc,none⟩) (cs.map coV).length cc,.int .i64 tk,.int .i64 tr,.int .i64 tp].toArray 111),pts b9 (.cells [.string cn,.int .u8 ck,.bool true].toArray 163),row 5 1 w (bytesV (U++nameB cn)),row 5 1 va [[.int .u8 ck],[.int .u8 1]]]++R) entD ?_
       exact n3_4_8 ⟨⟨va,hva⟩,⟨w,hw⟩,⟨vc,hvc⟩⟩ _ _ ⟨⟨rfl,rfl,rfl,rfl,rfl,rfl,rfl,rfl,rfl,rfl,rfl,rfl,trivial⟩,rfl⟩
     intro n3_8
     refine node_have 3 [0,4,5,6,7,8,9,10] (γ:=V1s×V1s×V1s) (fun⟨⟨va,hva⟩,⟨vb,hvb⟩,⟨vc,hvc⟩⟩ ρ L=>Knows ρ [(1,.pointer (some ⟨b1,0,none⟩)),(7,.pointer (some ⟨b7,0,none⟩)),(22,.slice (some ⟨bu,ou,none⟩) (ts.map tbV).length cu),(23,.int .i64 ((ts.map tbV).length:Int)),(24,.int .i64 (i:Int)),(9,.pointer (some ⟨b9,0,none⟩)),(10,.int .u8 1),(40,.slice (some ⟨bc,oc,none⟩) (cs.map coV).length cc),(41,.int .i64 ((cs.map coV).length:Int)),(42,.int .i64 (j:Int)),(51,.string (nameB cn)),(5,v5)]∧L=[A,pts b1 (.cells [.slice (some ⟨bu,ou,none⟩) (ts.map tbV).length cu].toArray 29),pts b7 (.cells [.string tn,.slice (some ⟨bc,oc,none⟩) (cs.map coV).length cc,.int .i64 tk,.int .i64 tr,.int .i64 tp].toArray 111),pts b9 (.cells [.string cn,.int .u8 ck,.bool true].toArray 163),row 5 1 v5 (bytesV U)]++R) ?_ ?_
     ·rintro⟨⟨va,hva⟩,⟨vb,hvb⟩,⟨vc,hvc⟩⟩ ρ L ⟨hk,rfl⟩
      refine cont_regs hk ?_
      refine cont_node [183] [(4,[0,4],[5,6,7,8,9,10]),(8,[5,6,7,8],[0,4,9,10])] rfl (by decide +kernel) ?_
      refine nodeE2 ?_ ?_
      ·dsimp only[List.length_cons,List.length_nil]
       repeat'(first|(refine gY ?_;intros)|fail)
       refine ops_run (s_append_str_nb rfl rfl rfl (by repeat(first|exact Sel.here|apply Sel.there)) (by simp only[bytesV_len];omega) (by simp only[bytesV_len];omega) rfl (takePre takeD) ?_)
       intro w hw
       repeat'(first|(refine gY ?_;intros)|fail)
       rw[bytesV_app]
       refine cont_map (L':=[A,pts b1 (.cells [.slice (some ⟨bu,ou,none⟩) (ts.map tbV).length cu].toArray 29),pts b7 (.cells [.string tn,.slice (some ⟨bc,oc,none⟩) (cs.map coV).length cc,.int .i64 tk,.int .i64 tr,.int .i64 tp].toArray 111),pts b9 (.cells [.string cn,.int .u8 ck,.bool true].toArray 163),row 5 1 w (bytesV (U++nameB cn))]++R) entD ?_
       exact n3_4 ⟨⟨va,hva⟩,⟨w,hw⟩,⟨vc,hvc⟩⟩ _ _ ⟨⟨rfl,rfl,rfl,rfl,rfl,rfl,rfl,rfl,rfl,rfl,rfl,trivial⟩,rfl⟩
      ·dsimp only[List.length_cons,List.length_nil]
       repeat'(first|(refine gY ?_;intros)|fail)
       rename_i w hw
       refine cont_map (L':=[A,pts b1 (.cells [.slice (some ⟨bu,ou,none⟩) (ts.map tbV).length cu].toArray 29),pts b7 (.cells [.string tn,.slice (some ⟨bc,oc,none⟩) (cs.map coV).length cc,.int .i64 tk,.int .i64 tr,.int .i64 tp].toArray 111),pts b9 (.cells [.string cn,.int .u8 ck,.bool true].toArray 163),row 5 1 v5 (bytesV U),row 5 1 w [[.int .u8 ck],[.int .u8 1]]]++R) entD ?_
       exact n3_8 ⟨⟨w,hw⟩,⟨vb,hvb⟩,⟨vc,hvc⟩⟩ _ _ ⟨⟨rfl,rfl,rfl,rfl,rfl,rfl,rfl,rfl,rfl,rfl,rfl,rfl,rfl,trivial⟩,rfl⟩
     intro n3
     refine node_have 3 [0,1,2,3,4,9,10] (γ:=V1s×V1s×V1s) (fun⟨⟨va,hva⟩,⟨vb,hvb⟩,⟨vc,hvc⟩⟩ ρ L=>Knows ρ [(1,.pointer (some ⟨b1,0,none⟩)),(7,.pointer (some ⟨b7,0,none⟩)),(22,.slice (some ⟨bu,ou,none⟩) (ts.map tbV).length cu),(23,.int .i64 ((ts.map tbV).length:Int)),(24,.int .i64 (i:Int)),(9,.pointer (some ⟨b9,0,none⟩)),(10,.int .u8 1),(40,.slice (some ⟨bc,oc,none⟩) (cs.map coV).length cc),(41,.int .i64 ((cs.map coV).length:Int)),(42,.int .i64 (j:Int)),(56,va),(5,v5)]∧L=[A,pts b1 (.cells [.slice (some ⟨bu,ou,none⟩) (ts.map tbV).length cu].toArray 29),pts b7 (.cells [.string tn,.slice (some ⟨bc,oc,none⟩) (cs.map coV).length cc,.int .i64 tk,.int .i64 tr,.int .i64 tp].toArray 111),pts b9 (.cells [.string cn,.int .u8 ck,.bool true].toArray 163),row 5 1 v5 (bytesV U),row 5 1 va [[.int .u8 ck],[.int .u8 1]]]++R) ?_ ?_
     ·rintro⟨⟨va,hva⟩,⟨vb,hvb⟩,⟨vc,hvc⟩⟩ ρ L ⟨hk,rfl⟩
      refine cont_regs hk ?_
      refine cont_node [183] [(3,[1,2,3],[0,4,9,10])] rfl (by decide +kernel) ?_
      refine nodeE1 ?_
      ·dsimp only[List.length_cons,List.length_nil]
       repeat'(first|(refine gY ?_;intros)|fail)
       refine clN_Y (ht15) ?_
       intro _ _
       repeat'(first|(refine gY ?_;intros)|fail)
       refine cont_map (L':=[A,pts b1 (.cells [.slice (some ⟨bu,ou,none⟩) (ts.map tbV).length cu].toArray 29),pts b7 (.cells [.string tn,.slice (some ⟨bc,oc,none⟩) (cs.map coV).length cc,.int .i64 tk,.int .i64 tr,.int .i64 tp].toArray 111),pts b9 (.cells [.string cn,.int .u8 ck,.bool true].toArray 163),row 5 1 v5 (bytesV U),row 5 1 va [[.int .u8 ck],[.int .u8 1]]]++R) entD ?_
       exact n3_8 ⟨⟨va,hva⟩,⟨vb,hvb⟩,⟨vc,hvc⟩⟩ _ _ ⟨⟨rfl,rfl,rfl,rfl,rfl,rfl,rfl,rfl,rfl,rfl,rfl,rfl,rfl,trivial⟩,rfl⟩
     intro n8
     refine cont_node [183] [(3,[1,2,3],[0,4,5,6,7,8,9,10]),(8,[5,6,7,8],[0,1,2,3,4,9,10])] rfl (by decide +kernel) ?_
     refine nodeE2 ?_ ?_
     ·dsimp only[List.length_cons,List.length_nil]
      repeat'(first|(refine gY ?_;intros)|fail)
      refine clN_Y (ht15) ?_
      intro _ _
      repeat'(first|(refine gY ?_;intros)|fail)
      refine cont_map (L':=[A,pts b1 (.cells [.slice (some ⟨bu,ou,none⟩) (ts.map tbV).length cu].toArray 29),pts b7 (.cells [.string tn,.slice (some ⟨bc,oc,none⟩) (cs.map coV).length cc,.int .i64 tk,.int .i64 tr,.int .i64 tp].toArray 111),pts b9 (.cells [.string cn,.int .u8 ck,.bool true].toArray 163),row 5 1 v5 (bytesV U)]++R) entD ?_
      exact n3 ⟨d0,d0,d0⟩ _ _ ⟨⟨rfl,rfl,rfl,rfl,rfl,rfl,rfl,rfl,rfl,rfl,rfl,rfl,trivial⟩,rfl⟩
     ·dsimp only[List.length_cons,List.length_nil]
      repeat'(first|(refine gY ?_;intros)|fail)
      rename_i w hw
      refine cont_map (L':=[A,pts b1 (.cells [.slice (some ⟨bu,ou,none⟩) (ts.map tbV).length cu].toArray 29),pts b7 (.cells [.string tn,.slice (some ⟨bc,oc,none⟩) (cs.map coV).length cc,.int .i64 tk,.int .i64 tr,.int .i64 tp].toArray 111),pts b9 (.cells [.string cn,.int .u8 ck,.bool true].toArray 163),row 5 1 v5 (bytesV U),row 5 1 w [[.int .u8 ck],[.int .u8 1]]]++R) entD ?_
      exact n8 ⟨⟨w,hw⟩,d0,d0⟩ _ _ ⟨⟨rfl,rfl,rfl,rfl,rfl,rfl,rfl,rfl,rfl,rfl,rfl,rfl,trivial⟩,rfl⟩
    rintro⟨v7,hv7⟩ ρ L ⟨hk,rfl⟩
    refine cont_regs hk ?_
    rw[← hcs]
    repeat'(first|(refine gY ?_;intros)|(refine hY ?_ ?_<;>intro hgd)|(refine jY ?_ ?_<;>intro _)|fail)
    exact cont_back (j+1,⟨v7,hv7⟩) ⟨hj0,⟨rfl,rfl,rfl,rfl,rfl,rfl,rfl,rfl,rfl,trivial⟩,rfl⟩ (by dsimp only;omega)
   |false=>
    have hcs:((cs.take (j+1)).foldl colB U0)=U++nameB cn++⟨#[b8 ck,b8 0]⟩:=hst
    repeat'(first|(refine gY ?_;intros)|(refine hY ?_ ?_<;>intro hgd)|(refine jY ?_ ?_<;>intro _)|fail)
    rename_i b9
    refine ok_meetE (γ:=V1s) (fun g ρ L=>Knows ρ [(1,.pointer (some ⟨b1,0,none⟩)),(7,.pointer (some ⟨b7,0,none⟩)),(22,.slice (some ⟨bu,ou,none⟩) (ts.map tbV).length cu),(23,.int .i64 ((ts.map tbV).length:Int)),(24,.int .i64 (i:Int)),(5,g.1),(40,.slice (some ⟨bc,oc,none⟩) (cs.map coV).length cc),(41,.int .i64 ((cs.map coV).length:Int)),(42,.int .i64 (j:Int))]∧
      L=[A,pts b1 (.cells [.slice (some ⟨bu,ou,none⟩) (ts.map tbV).length cu].toArray 29),pts b7 (.cells [.string tn,.slice (some ⟨bc,oc,none⟩) (cs.map coV).length cc,.int .i64 tk,.int .i64 tr,.int .i64 tp].toArray 111),row 5 1 g.1 (bytesV (U++nameB cn++⟨#[b8 ck,b8 0]⟩))]++R) ?_ ?_
    ·refine ok_draw_node (cv:=[183]) 4 [3,4,8,9] [pts b9 (.cells [.string cn,.int .u8 ck,.bool false].toArray 163)] (by kernel_rfl) rfl (by decide +kernel) (by decide +kernel) (by decide +kernel) (takePre takeD) _ rfl ?_
     have d0:V1s:=⟨.slice none 0 0,rfl⟩
     refine node_have 0 [10] (γ:=V1s×V1s×V1s) (fun⟨⟨va,hva⟩,⟨vb,hvb⟩,⟨vc,hvc⟩⟩ ρ L=>Knows ρ [(1,.pointer (some ⟨b1,0,none⟩)),(7,.pointer (some ⟨b7,0,none⟩)),(22,.slice (some ⟨bu,ou,none⟩) (ts.map tbV).length cu),(23,.int .i64 ((ts.map tbV).length:Int)),(24,.int .i64 (i:Int)),(9,.pointer (some ⟨b9,0,none⟩)),(10,.int .u8 0),(40,.slice (some ⟨bc,oc,none⟩) (cs.map coV).length cc),(41,.int .i64 ((cs.map coV).length:Int)),(42,.int .i64 (j:Int)),(57,vc)]∧L=[A,pts b1 (.cells [.slice (some ⟨bu,ou,none⟩) (ts.map tbV).length cu].toArray 29),pts b7 (.cells [.string tn,.slice (some ⟨bc,oc,none⟩) (cs.map coV).length cc,.int .i64 tk,.int .i64 tr,.int .i64 tp].toArray 111),pts b9 (.cells [.string cn,.int .u8 ck,.bool false].toArray 163),row 5 1 vc (bytesV (U++nameB cn++⟨#[b8 ck,b8 0]⟩))]++R) ?_ ?_
     ·rintro⟨⟨va,hva⟩,⟨vb,hvb⟩,⟨vc,hvc⟩⟩ ρ L ⟨hk,rfl⟩
      refine cont_regs hk ?_
      refine cont_node0 (by decide +kernel) ?_
      repeat'(first|(refine gY ?_;intros)|fail)
      refine cont_map (L':=[A,pts b1 (.cells [.slice (some ⟨bu,ou,none⟩) (ts.map tbV).length cu].toArray 29),pts b7 (.cells [.string tn,.slice (some ⟨bc,oc,none⟩) (cs.map coV).length cc,.int .i64 tk,.int .i64 tr,.int .i64 tp].toArray 111),row 5 1 vc (bytesV (U++nameB cn++⟨#[b8 ck,b8 0]⟩))]++R) entD ?_
      exact cont_meet ⟨vc,hvc⟩ ⟨⟨rfl,rfl,rfl,rfl,rfl,rfl,rfl,rfl,rfl,trivial⟩,rfl⟩
     intro n3_4_8_9
     refine node_have 1 [9,10] (γ:=V1s×V1s×V1s) (fun⟨⟨va,hva⟩,⟨vb,hvb⟩,⟨vc,hvc⟩⟩ ρ L=>Knows ρ [(1,.pointer (some ⟨b1,0,none⟩)),(7,.pointer (some ⟨b7,0,none⟩)),(22,.slice (some ⟨bu,ou,none⟩) (ts.map tbV).length cu),(23,.int .i64 ((ts.map tbV).length:Int)),(24,.int .i64 (i:Int)),(9,.pointer (some ⟨b9,0,none⟩)),(10,.int .u8 0),(40,.slice (some ⟨bc,oc,none⟩) (cs.map coV).length cc),(41,.int .i64 ((cs.map coV).length:Int)),(42,.int .i64 (j:Int)),(52,vb),(56,va)]∧L=[A,pts b1 (.cells [.slice (some ⟨bu,ou,none⟩) (ts.map tbV).length cu].toArray 29),pts b7 (.cells [.string tn,.slice (some ⟨bc,oc,none⟩) (cs.map coV).length cc,.int .i64 tk,.int .i64 tr,.int .i64 tp].toArray 111),pts b9 (.cells [.string cn,.int .u8 ck,.bool false].toArray 163),row 5 1 vb (bytesV (U++nameB cn)),row 5 1 va [[.int .u8 ck],[.int .u8 0]]]++R) ?_ ?_
     ·rintro⟨⟨va,hva⟩,⟨vb,hvb⟩,⟨vc,hvc⟩⟩ ρ L ⟨hk,rfl⟩
      refine cont_regs hk ?_
      refine cont_node [183] [(9,[9],[10])] rfl (by decide +kernel) ?_
      refine nodeE1 ?_
      ·dsimp only[List.length_cons,List.length_nil]
       repeat'(first|(refine gY ?_;intros)|fail)
       rename_i w hw
       rw[rowB20 k0 k1,bytesV_app]
       refine cont_map (L':=[A,pts b1 (.cells [.slice (some ⟨bu,ou,none⟩) (ts.map tbV).length cu].toArray 29),pts b7 (.cells [.string tn,.slice (some ⟨bc,oc,none⟩) (cs.map coV).length cc,.int .i64 tk,.int .i64 tr,.int .i64 tp].toArray 111),pts b9 (.cells [.string cn,.int .u8 ck,.bool false].toArray 163),row 5 1 w (bytesV (U++nameB cn++⟨#[b8 ck,b8 0]⟩))]++R) entD ?_
       exact n3_4_8_9 ⟨⟨va,hva⟩,⟨vb,hvb⟩,⟨w,hw⟩⟩ _ _ ⟨⟨rfl,rfl,rfl,rfl,rfl,rfl,rfl,rfl,rfl,rfl,rfl,trivial⟩,rfl⟩
     intro n3_4_8
     refine node_have 2 [5,6,7,8,9,10] (γ:=V1s×V1s×V1s) (fun⟨⟨va,hva⟩,⟨vb,hvb⟩,⟨vc,hvc⟩⟩ ρ L=>Knows ρ [(1,.pointer (some ⟨b1,0,none⟩)),(7,.pointer (some ⟨b7,0,none⟩)),(22,.slice (some ⟨bu,ou,none⟩) (ts.map tbV).length cu),(23,.int .i64 ((ts.map tbV).length:Int)),(24,.int .i64 (i:Int)),(9,.pointer (some ⟨b9,0,none⟩)),(10,.int .u8 0),(40,.slice (some ⟨bc,oc,none⟩) (cs.map coV).length cc),(41,.int .i64 ((cs.map coV).length:Int)),(42,.int .i64 (j:Int)),(52,vb)]∧L=[A,pts b1 (.cells [.slice (some ⟨bu,ou,none⟩) (ts.map tbV).length cu].toArray 29),pts b7 (.cells [.string tn,.slice (some ⟨bc,oc,none⟩) (cs.map coV).length cc,.int .i64 tk,.int .i64 tr,.int .i64 tp].toArray 111),pts b9 (.cells [.string cn,.int .u8 ck,.bool false].toArray 163),row 5 1 vb (bytesV (U++nameB cn))]++R) ?_ ?_
     ·rintro⟨⟨va,hva⟩,⟨vb,hvb⟩,⟨vc,hvc⟩⟩ ρ L ⟨hk,rfl⟩
      refine cont_regs hk ?_
      refine cont_node [183] [(8,[5,6,7,8],[9,10])] rfl (by decide +kernel) ?_
      refine nodeE1 ?_
      ·dsimp only[List.length_cons,List.length_nil]
       repeat'(first|(refine gY ?_;intros)|fail)
       rename_i w hw
       refine cont_map (L':=[A,pts b1 (.cells [.slice (some ⟨bu,ou,none⟩) (ts.map tbV).length cu].toArray 29),pts b7 (.cells [.string tn,.slice (some ⟨bc,oc,none⟩) (cs.map coV).length cc,.int .i64 tk,.int .i64 tr,.int .i64 tp].toArray 111),pts b9 (.cells [.string cn,.int .u8 ck,.bool false].toArray 163),row 5 1 vb (bytesV (U++nameB cn)),row 5 1 w [[.int .u8 ck],[.int .u8 0]]]++R) entD ?_
       exact n3_4_8 ⟨⟨w,hw⟩,⟨vb,hvb⟩,⟨vc,hvc⟩⟩ _ _ ⟨⟨rfl,rfl,rfl,rfl,rfl,rfl,rfl,rfl,rfl,rfl,rfl,rfl,trivial⟩,rfl⟩
     intro n3_4
     refine node_have 2 [0,4,9,10] (γ:=V1s×V1s×V1s) (fun⟨⟨va,hva⟩,⟨vb,hvb⟩,⟨vc,hvc⟩⟩ ρ L=>Knows ρ [(1,.pointer (some ⟨b1,0,none⟩)),(7,.pointer (some ⟨b7,0,none⟩)),(22,.slice (some ⟨bu,ou,none⟩) (ts.map tbV).length cu),(23,.int .i64 ((ts.map tbV).length:Int)),(24,.int .i64 (i:Int)),(9,.pointer (some ⟨b9,0,none⟩)),(10,.int .u8 0),(40,.slice (some ⟨bc,oc,none⟩) (cs.map coV).length cc),(41,.int .i64 ((cs.map coV).length:Int)),(42,.int .i64 (j:Int)),(51,.string (nameB cn)),(56,va),(5,v5)]∧L=[A,pts b1 (.cells [.slice (some ⟨bu,ou,none⟩) (ts.map tbV).length cu].toArray 29),pts b7 (.cells [.string tn,.slice (some ⟨bc,oc,none⟩) (cs.map coV).length cc,.int .i64 tk,.int .i64 tr,.int .i64 tp].toArray 111),pts b9 (.cells [.string cn,.int .u8 ck,.bool false].toArray 163),row 5 1 v5 (bytesV U),row 5 1 va [[.int .u8 ck],[.int .u8 0]]]++R) ?_ ?_
     ·rintro⟨⟨va,hva⟩,⟨vb,hvb⟩,⟨vc,hvc⟩⟩ ρ L ⟨hk,rfl⟩
      refine cont_regs hk ?_
      refine cont_node [183] [(4,[0,4],[9,10])] rfl (by decide +kernel) ?_
      refine nodeE1 ?_
      ·dsimp only[List.length_cons,List.length_nil]
       repeat'(first|(refine gY ?_;intros)|fail)
       refine ops_run (s_append_str_nb rfl rfl rfl (by repeat(first|exact Sel.here|apply Sel.there)) (by simp only[bytesV_len];omega) (by simp only[bytesV_len];omega) rfl (takePre takeD) ?_)
       intro w hw
       repeat'(first|(refine gY ?_;intros)|fail)
       rw[bytesV_app]
       refine cont_map (L':=[A,pts b1 (.cells [.slice (some ⟨bu,ou,none⟩) (ts.map tbV).length cu].toArray 29),pts b7 (.cells [.string tn,.slice (some ⟨bc,oc,none⟩) (cs.map coV).length cc,.int .i64 tk,.int .i64 tr,.int .i64 tp].toArray 111),pts b9 (.cells [.string cn,.int .u8 ck,.bool false].toArray 163),row 5 1 w (bytesV (U++nameB cn)),row 5 1 va [[.int .u8 ck],[.int .u8 0]]]++R) entD ?_
       exact n3_4_8 ⟨⟨va,hva⟩,⟨w,hw⟩,⟨vc,hvc⟩⟩ _ _ ⟨⟨rfl,rfl,rfl,rfl,rfl,rfl,rfl,rfl,rfl,rfl,rfl,rfl,trivial⟩,rfl⟩
     intro n3_8
     refine node_have 3 [0,4,5,6,7,8,9,10] (γ:=V1s×V1s×V1s) (fun⟨⟨va,hva⟩,⟨vb,hvb⟩,⟨vc,hvc⟩⟩ ρ L=>Knows ρ [(1,.pointer (some ⟨b1,0,none⟩)),(7,.pointer (some ⟨b7,0,none⟩)),(22,.slice (some ⟨bu,ou,none⟩) (ts.map tbV).length cu),(23,.int .i64 ((ts.map tbV).length:Int)),(24,.int .i64 (i:Int)),(9,.pointer (some ⟨b9,0,none⟩)),(10,.int .u8 0),(40,.slice (some ⟨bc,oc,none⟩) (cs.map coV).length cc),(41,.int .i64 ((cs.map coV).length:Int)),(42,.int .i64 (j:Int)),(51,.string (nameB cn)),(5,v5)]∧L=[A,pts b1 (.cells [.slice (some ⟨bu,ou,none⟩) (ts.map tbV).length cu].toArray 29),pts b7 (.cells [.string tn,.slice (some ⟨bc,oc,none⟩) (cs.map coV).length cc,.int .i64 tk,.int .i64 tr,.int .i64 tp].toArray 111),pts b9 (.cells [.string cn,.int .u8 ck,.bool false].toArray 163),row 5 1 v5 (bytesV U)]++R) ?_ ?_
     ·rintro⟨⟨va,hva⟩,⟨vb,hvb⟩,⟨vc,hvc⟩⟩ ρ L ⟨hk,rfl⟩
      refine cont_regs hk ?_
      refine cont_node [183] [(4,[0,4],[5,6,7,8,9,10]),(8,[5,6,7,8],[0,4,9,10])] rfl (by decide +kernel) ?_
      refine nodeE2 ?_ ?_
      ·dsimp only[List.length_cons,List.length_nil]
       repeat'(first|(refine gY ?_;intros)|fail)
       refine ops_run (s_append_str_nb rfl rfl rfl (by repeat(first|exact Sel.here|apply Sel.there)) (by simp only[bytesV_len];omega) (by simp only[bytesV_len];omega) rfl (takePre takeD) ?_)
       intro w hw
       repeat'(first|(refine gY ?_;intros)|fail)
       rw[bytesV_app]
       refine cont_map (L':=[A,pts b1 (.cells [.slice (some ⟨bu,ou,none⟩) (ts.map tbV).length cu].toArray 29),pts b7 (.cells [.string tn,.slice (some ⟨bc,oc,none⟩) (cs.map coV).length cc,.int .i64 tk,.int .i64 tr,.int .i64 tp].toArray 111),pts b9 (.cells [.string cn,.int .u8 ck,.bool false].toArray 163),row 5 1 w (bytesV (U++nameB cn))]++R) entD ?_
       exact n3_4 ⟨⟨va,hva⟩,⟨w,hw⟩,⟨vc,hvc⟩⟩ _ _ ⟨⟨rfl,rfl,rfl,rfl,rfl,rfl,rfl,rfl,rfl,rfl,rfl,trivial⟩,rfl⟩
      ·dsimp only[List.length_cons,List.length_nil]
       repeat'(first|(refine gY ?_;intros)|fail)
       rename_i w hw
       refine cont_map (L':=[A,pts b1 (.cells [.slice (some ⟨bu,ou,none⟩) (ts.map tbV).length cu].toArray 29),pts b7 (.cells [.string tn,.slice (some ⟨bc,oc,none⟩) (cs.map coV).length cc,.int .i64 tk,.int .i64 tr,.int .i64 tp].toArray 111),pts b9 (.cells [.string cn,.int .u8 ck,.bool false].toArray 163),row 5 1 v5 (bytesV U),row 5 1 w [[.int .u8 ck],[.int .u8 0]]]++R) entD ?_
       exact n3_8 ⟨⟨w,hw⟩,⟨vb,hvb⟩,⟨vc,hvc⟩⟩ _ _ ⟨⟨rfl,rfl,rfl,rfl,rfl,rfl,rfl,rfl,rfl,rfl,rfl,rfl,rfl,trivial⟩,rfl⟩
     intro n3
     refine node_have 3 [0,1,2,3,4,9,10] (γ:=V1s×V1s×V1s) (fun⟨⟨va,hva⟩,⟨vb,hvb⟩,⟨vc,hvc⟩⟩ ρ L=>Knows ρ [(1,.pointer (some ⟨b1,0,none⟩)),(7,.pointer (some ⟨b7,0,none⟩)),(22,.slice (some ⟨bu,ou,none⟩) (ts.map tbV).length cu),(23,.int .i64 ((ts.map tbV).length:Int)),(24,.int .i64 (i:Int)),(9,.pointer (some ⟨b9,0,none⟩)),(10,.int .u8 0),(40,.slice (some ⟨bc,oc,none⟩) (cs.map coV).length cc),(41,.int .i64 ((cs.map coV).length:Int)),(42,.int .i64 (j:Int)),(56,va),(5,v5)]∧L=[A,pts b1 (.cells [.slice (some ⟨bu,ou,none⟩) (ts.map tbV).length cu].toArray 29),pts b7 (.cells [.string tn,.slice (some ⟨bc,oc,none⟩) (cs.map coV).length cc,.int .i64 tk,.int .i64 tr,.int .i64 tp].toArray 111),pts b9 (.cells [.string cn,.int .u8 ck,.bool false].toArray 163),row 5 1 v5 (bytesV U),row 5 1 va [[.int .u8 ck],[.int .u8 0]]]++R) ?_ ?_
     ·rintro⟨⟨va,hva⟩,⟨vb,hvb⟩,⟨vc,hvc⟩⟩ ρ L ⟨hk,rfl⟩
      refine cont_regs hk ?_
      refine cont_node [183] [(3,[1,2,3],[0,4,9,10])] rfl (by decide +kernel) ?_
      refine nodeE1 ?_
      ·dsimp only[List.length_cons,List.length_nil]
       repeat'(first|(refine gY ?_;intros)|fail)
       refine clN_Y (ht15) ?_
       intro _ _
       repeat'(first|(refine gY ?_;intros)|fail)
       refine cont_map (L':=[A,pts b1 (.cells [.slice (some ⟨bu,ou,none⟩) (ts.map tbV).length cu].toArray 29),pts b7 (.cells [.string tn,.slice (some ⟨bc,oc,none⟩) (cs.map coV).length cc,.int .i64 tk,.int .i64 tr,.int .i64 tp].toArray 111),pts b9 (.cells [.string cn,.int .u8 ck,.bool false].toArray 163),row 5 1 v5 (bytesV U),row 5 1 va [[.int .u8 ck],[.int .u8 0]]]++R) entD ?_
       exact n3_8 ⟨⟨va,hva⟩,⟨vb,hvb⟩,⟨vc,hvc⟩⟩ _ _ ⟨⟨rfl,rfl,rfl,rfl,rfl,rfl,rfl,rfl,rfl,rfl,rfl,rfl,rfl,trivial⟩,rfl⟩
     intro n8
     refine cont_node [183] [(3,[1,2,3],[0,4,5,6,7,8,9,10]),(8,[5,6,7,8],[0,1,2,3,4,9,10])] rfl (by decide +kernel) ?_
     refine nodeE2 ?_ ?_
     ·dsimp only[List.length_cons,List.length_nil]
      repeat'(first|(refine gY ?_;intros)|fail)
      refine clN_Y (ht15) ?_
      intro _ _
      repeat'(first|(refine gY ?_;intros)|fail)
      refine cont_map (L':=[A,pts b1 (.cells [.slice (some ⟨bu,ou,none⟩) (ts.map tbV).length cu].toArray 29),pts b7 (.cells [.string tn,.slice (some ⟨bc,oc,none⟩) (cs.map coV).length cc,.int .i64 tk,.int .i64 tr,.int .i64 tp].toArray 111),pts b9 (.cells [.string cn,.int .u8 ck,.bool false].toArray 163),row 5 1 v5 (bytesV U)]++R) entD ?_
      exact n3 ⟨d0,d0,d0⟩ _ _ ⟨⟨rfl,rfl,rfl,rfl,rfl,rfl,rfl,rfl,rfl,rfl,rfl,rfl,trivial⟩,rfl⟩
     ·dsimp only[List.length_cons,List.length_nil]
      repeat'(first|(refine gY ?_;intros)|fail)
      rename_i w hw
      refine cont_map (L':=[A,pts b1 (.cells [.slice (some ⟨bu,ou,none⟩) (ts.map tbV).length cu].toArray 29),pts b7 (.cells [.string tn,.slice (some ⟨bc,oc,none⟩) (cs.map coV).length cc,.int .i64 tk,.int .i64 tr,.int .i64 tp].toArray 111),pts b9 (.cells [.string cn,.int .u8 ck,.bool false].toArray 163),row 5 1 v5 (bytesV U),row 5 1 w [[.int .u8 ck],[.int .u8 0]]]++R) entD ?_
      exact n8 ⟨⟨w,hw⟩,d0,d0⟩ _ _ ⟨⟨rfl,rfl,rfl,rfl,rfl,rfl,rfl,rfl,rfl,rfl,rfl,rfl,trivial⟩,rfl⟩
    rintro⟨v7,hv7⟩ ρ L ⟨hk,rfl⟩
    refine cont_regs hk ?_
    rw[← hcs]
    repeat'(first|(refine gY ?_;intros)|(refine hY ?_ ?_<;>intro hgd)|(refine jY ?_ ?_<;>intro _)|fail)
    exact cont_back (j+1,⟨v7,hv7⟩) ⟨hj0,⟨rfl,rfl,rfl,rfl,rfl,rfl,rfl,rfl,rfl,trivial⟩,rfl⟩ (by dsimp only;omega)
end Go.Proofs.YtmnafjonbeihiaaGreatDoor
