import Derived.Test.YtmnafjonbeihiaaGreatDoorK2
import Derived.Test.YtmnafjonbeihiaaGreatDoorLf
import Derived.Test.YtmnafjonbeihiaaGreatDoorTie
import Derived.Lib.LaidU8T
import Derived.PinnedBridge
import Derived.Lay
set_option linter.unusedSimpArgs false
set_option linter.unusedVariables false
set_option maxRecDepth 8000
namespace Go.Proofs.YtmnafjonbeihiaaGreatDoor
open Go Go.Fx Go.Proofs Go.Pl Go.ChangeShapes Go.WideShapes Go.ChangeAt Go.RowKit
theorem ld_len{H:Type}{enc:TypeId×Value→H}{P:Program}{W:World}{base:Nat}{sp:Nat→Bool}{held:Bool}{fuel t e n:Nat}{cs:List Value}{v:Value}{y:DataW H×List MemPlace}{α:Type}{f:α→List Value}{xs:List α}(ht:P.underlying t=some (.slice e))(hb:0<P.bytesOf e)
  (h:DataW.trod enc P W base sp held fuel t cs=some y)(hc:cs=[v])(hw:∀ k∈y.1.weights P t,k≤reachBytes)(hv:Vw (orig W) n v (xs.map f)):xs.length≤140737488355328:=by
 have hrb:reachBytes≤140737488355328:=by decide
 obtain⟨_,p,cap,e1,_⟩:=hv (fun b=>W.heap[b]?) (fun _ _=>rfl)
 rcases Deep.open_slice ht h with⟨e2,_⟩|⟨a,len,cap',m,n',D,Pl,e2,_,_,_,_,hx,_⟩
 ·rw[hc,e1]at e2
  simp only[List.cons.injEq,Value.slice.injEq,and_true,List.length_map]at e2
  omega
 ·rw[hc,e1]at e2
  simp only[List.cons.injEq,Value.slice.injEq,and_true,List.length_map]at e2
  have:=hw ((len+(m-len))*P.bytesOf e) (by
   rw[hx]
   unfold DataW.weights
   rw[ht]
   simp only[List.length_map,List.length_range]
   exact List.mem_cons_self ..)
  have h2:len+(m-len)≤(len+(m-len))*P.bytesOf e:=Nat.le_mul_of_pos_right _ hb
  omega
theorem ld_lenB{H:Type}{enc:TypeId×Value→H}{P:Program}{W:World}{base:Nat}{sp:Nat→Bool}{held:Bool}{fuel t e n b:Nat}{cs:List Value}{v:Value}{y:DataW H×List MemPlace}{α:Type}{f:α→List Value}{xs:List α}(ht:P.underlying t=some (.slice e))(hb:P.bytesOf e=b)
  (h:DataW.trod enc P W base sp held fuel t cs=some y)(hc:cs=[v])(hw:∀ k∈y.1.weights P t,k≤reachBytes)(hv:Vw (orig W) n v (xs.map f)):xs.length*b≤140737488355328:=by
 have hrb:reachBytes≤140737488355328:=by decide
 obtain⟨_,p,cap,e1,_⟩:=hv (fun b=>W.heap[b]?) (fun _ _=>rfl)
 rcases Deep.open_slice ht h with⟨e2,_⟩|⟨a,len,cap',m,n',D,Pl,e2,_,_,_,_,hx,_⟩
 ·rw[hc,e1]at e2
  simp only[List.cons.injEq,Value.slice.injEq,and_true,List.length_map]at e2
  rw[e2.2.1];omega
 ·rw[hc,e1]at e2
  simp only[List.cons.injEq,Value.slice.injEq,and_true,List.length_map]at e2
  have:=hw ((len+(m-len))*P.bytesOf e) (by
   rw[hx]
   unfold DataW.weights
   rw[ht]
   simp only[List.length_map,List.length_range]
   exact List.mem_cons_self ..)
  rw[hb]at this
  have h2:xs.length*b≤(len+(m-len))*b:=Nat.mul_le_mul_right b (by omega)
  omega
theorem calls_true_ext{P:Program}{f:FuncId}{args:List Value}{W:World}(s:FSpec P f args [orig W] HProp (fun P'=>Ext (orig W) P') (fun _=>.bool true) (fun P'=>[P'])):
  Calls P f args.toArray W fun e W'=>e= .returned (.bool true)∧Below W.heap.size W W':=by
 refine(s W W [] (orig_self W)).mono ?_
 rintro e W' ⟨y,hE,rfl,hs⟩
 exact⟨rfl,below_of (L:=[]) (hs.map fun _ h=>ext_in hE h)⟩
theorem ld_types:U8Types Tryz.prog Tryz.laysValid_ren:=U8Types.of196 Tryz.laysValid
theorem ld_extra:U8Extra Tryz.prog Tryz.laysValid_ren:=⟨by kernel_rfl,by kernel_rfl,by kernel_rfl,by kernel_rfl,by kernel_rfl,by kernel_rfl,by kernel_rfl⟩
theorem ld_accept:Rows.laid_unicode_utf8_acceptRanges=Lib.acceptData:=by kernel_rfl
theorem ld_ut{W:World}(hL0:laidMetH Tryz.prog [("unicode/utf8.acceptRanges",Rows.laid_unicode_utf8_acceptRanges),("unicode/utf8.first",Rows.laid_unicode_utf8_first)] W):UT (orig W):=by
 have hL:=hL0
 rw[MakeChecks.laidMetH_plain _ _ _ (by kernel_rfl)]at hL
 have r3:Lib.VarReads Tryz.prog W "unicode/utf8.first" Lib.firstData:=by
  have:=Lib.laidMet.reads hL (n:= "unicode/utf8.first") (d:=Rows.laid_unicode_utf8_first) (.tail _ (.head _))
  rw[show Rows.laid_unicode_utf8_first=Lib.firstData from Pinned.utf8First_eq]at this
  exact this
 have r4:Lib.VarReads Tryz.prog W "unicode/utf8.acceptRanges" Lib.acceptData:=by
  have:=Lib.laidMet.reads hL (n:= "unicode/utf8.acceptRanges") (d:=Rows.laid_unicode_utf8_acceptRanges) (.head _)
  rw[ld_accept]at this
  exact this
 have hT:=utf8Tabs_of_readsT ld_types ld_extra r3 r4
 rintro w ⟨h,hle,ho⟩
 have e:∀ (a:Addr) (v:Value),W.cell? a=some v→w.cell? a=some v:=by
  intro a v hv
  unfold World.cell? at hv ⊢
  cases hb:W.heap[a.block]? with
  |none=>rw[hb]at hv;cases hv
  |some o=>
   have hlt:=(Array.getElem?_eq_some_iff.1 hb).1
   have e1:=ho _ hlt
   rw[hb]at e1 hv
   rw[show w.heap[a.block]? =some o from hle _ _ e1]
   exact hv
 exact⟨fun c hc=>e _ _ (hT.1 c hc),fun i hi=>⟨e _ _ (hT.2 i hi).1,e _ _ (hT.2 i hi).2⟩⟩
theorem open_Vl{H:Type}{enc:TypeId×Value→H}{W:World}{held:Bool}{fuel:Nat}{cs:List Value}{y:DataW H×List MemPlace}(h:DataW.trod enc Tryz.prog W 0 (fun _=>true) held fuel 93 cs=some y)
  (hw:∀ k∈y.1.weights Tryz.prog 93,k≤reachBytes):∃ x:Vl,cs=valV x∧x.wf:=by
 have hC:Tryz.prog.cellsOf 93=4:=by kernel_rfl
 have hrb:reachBytes≤140737488355328:=by decide
 have c0:Tryz.prog.cellsOf 5=1:=by kernel_rfl
 have c1:Tryz.prog.cellsOf 2=1:=by kernel_rfl
 have c2:Tryz.prog.cellsOf 25=1:=by kernel_rfl
 have c3:Tryz.prog.cellsOf 9=1:=by kernel_rfl
 obtain⟨xs,n,rfl,rfl,hl,hlen,hf⟩:=DataW.trod_struct Tryz.underlying93 h
 rw[hC]at hl
 match cs,hl with
 | [v0,v1,v2,v3],_=>
  match xs,hlen with
  | [y0,y1,y2,y3],_=>
   have h0:DataW.trod enc Tryz.prog W 0 (fun _=>true) held n 5 (([v0,v1,v2,v3].drop 0).take (Tryz.prog.cellsOf 5))=some y0:=hf 0 _ rfl
   rw[c0]at h0
   have h1:DataW.trod enc Tryz.prog W 0 (fun _=>true) held n 2 (([v0,v1,v2,v3].drop 1).take (Tryz.prog.cellsOf 2))=some y1:=hf 1 _ rfl
   rw[c1]at h1
   have h2:DataW.trod enc Tryz.prog W 0 (fun _=>true) held n 25 (([v0,v1,v2,v3].drop 2).take (Tryz.prog.cellsOf 25))=some y2:=hf 2 _ rfl
   rw[c2]at h2
   have h3:DataW.trod enc Tryz.prog W 0 (fun _=>true) held n 9 (([v0,v1,v2,v3].drop 3).take (Tryz.prog.cellsOf 9))=some y3:=hf 3 _ rfl
   rw[c3]at h3
   obtain⟨a0,e0,_,w0⟩:=DataW.trod_int Tryz.underlying5 h0
   obtain⟨a1,e1,_,w1⟩:=DataW.trod_int Tryz.underlying2 h1
   obtain⟨a2,e2,_,w2⟩:=DataW.trod_int Tryz.underlying25 h2
   obtain⟨a3,e3,d3,_⟩:=DataW.trod_string Tryz.underlying9 h3
   simp only[List.drop_succ_cons,List.drop_zero,List.take_succ_cons,List.take_zero,List.cons.injEq,and_true]at e0 e1 e2 e3
   subst e0 e1 e2 e3
   simp only[List.map_cons,List.map_nil,DataW.weights,Tryz.underlying93,DataW.weightsEach,List.mem_append,List.mem_cons]at hw
   have z3:a3.size≤140737488355328:=by
    subst d3
    have:=hw a3.data.toList.length (.inr (.inr (.inr (.inl (by simp only[DataW.weights,Tryz.underlying9];first|exact List.mem_singleton.2 rfl|simp)))))
    have e':a3.data.toList.length=a3.size:=by simp
    omega
   exact⟨⟨a0,a1,a2,a3⟩,rfl,⟨(lf_u8 w0).1,(lf_u8 w0).2,(lf_i64 w1).1,(lf_i64 w1).2,(lf_u64 w2).1,(lf_u64 w2).2,z3⟩⟩
theorem open_Vls{H:Type}{enc:TypeId×Value→H}{W:World}{held:Bool}{fuel:Nat}{cs:List Value}{y:DataW H×List MemPlace}(h:DataW.trod enc Tryz.prog W 0 (fun _=>true) held fuel 22 cs=some y)
  (hw:∀ k∈y.1.weights Tryz.prog 22,k≤reachBytes):∃ (v:Value) (l:List Vl),cs=[v]∧capOk v∧(∀ x∈l,(fun x:Vl=>x.wf) x)∧Vw (orig W) 4 v (l.map valV):=
 open_viewC (e:=93) (n:=4) Tryz.underlying22 (by kernel_rfl) (by decide) h hw valV (fun x:Vl=>x.wf) (fun x=>⟨rfl,rfl⟩) (fun fuel cs y h hw=>open_Vl h hw)
theorem open_Co{H:Type}{enc:TypeId×Value→H}{W:World}{held:Bool}{fuel:Nat}{cs:List Value}{y:DataW H×List MemPlace}(h:DataW.trod enc Tryz.prog W 0 (fun _=>true) held fuel 163 cs=some y)
  (hw:∀ k∈y.1.weights Tryz.prog 163,k≤reachBytes):∃ x:Co,cs=coV x∧x.name.size≤140737488355328:=by
 have hC:Tryz.prog.cellsOf 163=3:=by kernel_rfl
 have hrb:reachBytes≤140737488355328:=by decide
 have c0:Tryz.prog.cellsOf 9=1:=by kernel_rfl
 have c1:Tryz.prog.cellsOf 5=1:=by kernel_rfl
 have c2:Tryz.prog.cellsOf 4=1:=by kernel_rfl
 obtain⟨xs,n,rfl,rfl,hl,hlen,hf⟩:=DataW.trod_struct Tryz.underlying163 h
 rw[hC]at hl
 match cs,hl with
 | [v0,v1,v2],_=>
  match xs,hlen with
  | [y0,y1,y2],_=>
   have h0:DataW.trod enc Tryz.prog W 0 (fun _=>true) held n 9 (([v0,v1,v2].drop 0).take (Tryz.prog.cellsOf 9))=some y0:=hf 0 _ rfl
   rw[c0]at h0
   have h1:DataW.trod enc Tryz.prog W 0 (fun _=>true) held n 5 (([v0,v1,v2].drop 1).take (Tryz.prog.cellsOf 5))=some y1:=hf 1 _ rfl
   rw[c1]at h1
   have h2:DataW.trod enc Tryz.prog W 0 (fun _=>true) held n 4 (([v0,v1,v2].drop 2).take (Tryz.prog.cellsOf 4))=some y2:=hf 2 _ rfl
   rw[c2]at h2
   obtain⟨a0,e0,d0,_⟩:=DataW.trod_string Tryz.underlying9 h0
   obtain⟨a1,e1,_,w1⟩:=DataW.trod_int Tryz.underlying5 h1
   obtain⟨a2,e2,_⟩:=DataW.trod_bool Tryz.underlying4 h2
   simp only[List.drop_succ_cons,List.drop_zero,List.take_succ_cons,List.take_zero,List.cons.injEq,and_true]at e0 e1 e2
   subst e0 e1 e2
   simp only[List.map_cons,List.map_nil,DataW.weights,Tryz.underlying163,DataW.weightsEach,List.mem_append,List.mem_cons]at hw
   have z0:a0.size≤140737488355328:=by
    subst d0
    have:=hw a0.data.toList.length (.inl (by simp only[DataW.weights,Tryz.underlying9];first|exact List.mem_singleton.2 rfl|simp))
    have e':a0.data.toList.length=a0.size:=by simp
    omega
   exact⟨⟨a0,a1,a2⟩,rfl,z0⟩
theorem open_Cos{H:Type}{enc:TypeId×Value→H}{W:World}{held:Bool}{fuel:Nat}{cs:List Value}{y:DataW H×List MemPlace}(h:DataW.trod enc Tryz.prog W 0 (fun _=>true) held fuel 109 cs=some y)
  (hw:∀ k∈y.1.weights Tryz.prog 109,k≤reachBytes):∃ (v:Value) (l:List Co),cs=[v]∧capOk v∧(∀ x∈l,(fun x:Co=>x.name.size≤140737488355328) x)∧Vw (orig W) 3 v (l.map coV):=
 open_viewC (e:=163) (n:=3) Tryz.underlying109 (by kernel_rfl) (by decide) h hw coV (fun x:Co=>x.name.size≤140737488355328) (fun x=>⟨rfl,rfl⟩) (fun fuel cs y h hw=>open_Co h hw)
theorem open_Tb{H:Type}{enc:TypeId×Value→H}{W:World}{held:Bool}{fuel:Nat}{cs:List Value}{y:DataW H×List MemPlace}(h:DataW.trod enc Tryz.prog W 0 (fun _=>true) held fuel 111 cs=some y)
  (hw:∀ k∈y.1.weights Tryz.prog 111,k≤reachBytes):∃ x:Tb,cs=tbV x∧TbR (orig W) x:=by
 have hC:Tryz.prog.cellsOf 111=5:=by kernel_rfl
 have hrb:reachBytes≤140737488355328:=by decide
 have c0:Tryz.prog.cellsOf 9=1:=by kernel_rfl
 have c1:Tryz.prog.cellsOf 109=1:=by kernel_rfl
 have c2:Tryz.prog.cellsOf 3=1:=by kernel_rfl
 obtain⟨xs,n,rfl,rfl,hl,hlen,hf⟩:=DataW.trod_struct Tryz.underlying111 h
 rw[hC]at hl
 match cs,hl with
 | [v0,v1,v2,v3,v4],_=>
  match xs,hlen with
  | [y0,y1,y2,y3,y4],_=>
   have h0:DataW.trod enc Tryz.prog W 0 (fun _=>true) held n 9 (([v0,v1,v2,v3,v4].drop 0).take (Tryz.prog.cellsOf 9))=some y0:=hf 0 _ rfl
   rw[c0]at h0
   have h1:DataW.trod enc Tryz.prog W 0 (fun _=>true) held n 109 (([v0,v1,v2,v3,v4].drop 1).take (Tryz.prog.cellsOf 109))=some y1:=hf 1 _ rfl
   rw[c1]at h1
   have h2:DataW.trod enc Tryz.prog W 0 (fun _=>true) held n 3 (([v0,v1,v2,v3,v4].drop 2).take (Tryz.prog.cellsOf 3))=some y2:=hf 2 _ rfl
   rw[c2]at h2
   have h3:DataW.trod enc Tryz.prog W 0 (fun _=>true) held n 3 (([v0,v1,v2,v3,v4].drop 3).take (Tryz.prog.cellsOf 3))=some y3:=hf 3 _ rfl
   rw[c2]at h3
   have h4:DataW.trod enc Tryz.prog W 0 (fun _=>true) held n 3 (([v0,v1,v2,v3,v4].drop 4).take (Tryz.prog.cellsOf 3))=some y4:=hf 4 _ rfl
   rw[c2]at h4
   obtain⟨a0,e0,d0,_⟩:=DataW.trod_string Tryz.underlying9 h0
   obtain⟨a2,e2,_,w2⟩:=DataW.trod_int Tryz.underlying3 h2
   obtain⟨a3,e3,_,w3⟩:=DataW.trod_int Tryz.underlying3 h3
   obtain⟨a4,e4,_,w4⟩:=DataW.trod_int Tryz.underlying3 h4
   simp only[List.drop_succ_cons,List.drop_zero,List.take_succ_cons,List.take_zero,List.cons.injEq,and_true]at e0 e2 e3 e4 h1
   subst e0 e2 e3 e4
   simp only[List.map_cons,List.map_nil,DataW.weights,Tryz.underlying111,DataW.weightsEach,List.mem_append,List.mem_cons]at hw
   have z0:a0.size≤140737488355328:=by
    subst d0
    have:=hw a0.data.toList.length (.inl (by simp only[DataW.weights,Tryz.underlying9];first|exact List.mem_singleton.2 rfl|simp))
    have e':a0.data.toList.length=a0.size:=by simp
    omega
   have q1:=open_Cos h1 (fun k hk=>hw k (.inr (.inl hk)))
   obtain⟨v,l,em,hcap,hz,hv⟩:=q1
   simp only[List.cons.injEq,and_true]at em
   subst em
   have h1c:v1.oneCell'=true:=by
    obtain⟨_,_,_,rfl,_⟩:=hcap
    rfl
   exact⟨⟨a0,l,⟨v1,h1c⟩,a2,a3,a4⟩,rfl,⟨hv,by have:=ld_lenB (b:=24) Tryz.underlying109 (by kernel_rfl) h1 rfl (fun k hk=>hw k (.inr (.inl hk))) hv;dsimp only;omega,z0,hz⟩⟩
instance:Inhabited Tb:=⟨⟨⟨#[]⟩,[],⟨.slice none 0 0,rfl⟩,0,0,0⟩⟩
instance:Inhabited Om:=⟨⟨0,0,⟨.slice none 0 0,rfl⟩,[]⟩⟩
theorem open_Tbs{H:Type}{enc:TypeId×Value→H}{W:World}{held:Bool}{fuel:Nat}{cs:List Value}{y:DataW H×List MemPlace}(h:DataW.trod enc Tryz.prog W 0 (fun _=>true) held fuel 27 cs=some y)
  (hw:∀ k∈y.1.weights Tryz.prog 27,k≤reachBytes):∃ (v:Value) (l:List Tb),cs=[v]∧capOk v∧(∀ x∈l,(fun x:Tb=>TbR (orig W) x) x)∧Vw (orig W) 5 v (l.map tbV):=
 open_viewC (e:=111) (n:=5) Tryz.underlying27 (by kernel_rfl) (by decide) h hw tbV (fun x:Tb=>TbR (orig W) x) (fun x=>⟨rfl,by simp only[tbV,oneCells,List.all_cons,List.all_nil,x.cv.2,Bool.and_true];rfl⟩) (fun fuel cs y h hw=>open_Tb h hw)
def scV(x:V1s×List Tb):List Value:=[x.1.1]
theorem open_Sc{H:Type}{enc:TypeId×Value→H}{W:World}{held:Bool}{fuel:Nat}{cs:List Value}{y:DataW H×List MemPlace}(h:DataW.trod enc Tryz.prog W 0 (fun _=>true) held fuel 29 cs=some y)
  (hw:∀ k∈y.1.weights Tryz.prog 29,k≤reachBytes):∃ x:V1s×List Tb,cs=scV x∧SVr (orig W) x.1.1 x.2:=by
 have hC:Tryz.prog.cellsOf 29=1:=by kernel_rfl
 have hrb:reachBytes≤140737488355328:=by decide
 have c0:Tryz.prog.cellsOf 27=1:=by kernel_rfl
 obtain⟨xs,n,rfl,rfl,hl,hlen,hf⟩:=DataW.trod_struct Tryz.underlying29 h
 rw[hC]at hl
 match cs,hl with
 | [v0],_=>
  match xs,hlen with
  | [y0],_=>
   have h0:DataW.trod enc Tryz.prog W 0 (fun _=>true) held n 27 (([v0].drop 0).take (Tryz.prog.cellsOf 27))=some y0:=hf 0 _ rfl
   rw[c0]at h0
   simp only[List.drop_succ_cons,List.drop_zero,List.take_succ_cons,List.take_zero,List.cons.injEq,and_true]at h0
   simp only[List.map_cons,List.map_nil,DataW.weights,Tryz.underlying29,DataW.weightsEach,List.mem_append,List.mem_cons]at hw
   have q0:=open_Tbs h0 (fun k hk=>hw k (.inl hk))
   obtain⟨v,l,em,hcap,hz,hv⟩:=q0
   simp only[List.cons.injEq,and_true]at em
   subst em
   have h1c:v0.oneCell'=true:=by
    obtain⟨_,_,_,rfl,_⟩:=hcap
    rfl
   exact⟨(⟨v0,h1c⟩,l),rfl,⟨hv,hz,ld_len Tryz.underlying27 (of_decide_eq_true (by kernel_rfl)) h0 rfl (fun k hk=>hw k (.inl hk)) hv,hcap⟩⟩
theorem open_Om{H:Type}{enc:TypeId×Value→H}{W:World}{held:Bool}{fuel:Nat}{cs:List Value}{y:DataW H×List MemPlace}(h:DataW.trod enc Tryz.prog W 0 (fun _=>true) held fuel 24 cs=some y)
  (hw:∀ k∈y.1.weights Tryz.prog 24,k≤reachBytes):∃ x:Om,cs=opV x∧OmR (orig W) x∧∀ v∈x.row,v.wf:=by
 have hC:Tryz.prog.cellsOf 24=3:=by kernel_rfl
 have hrb:reachBytes≤140737488355328:=by decide
 have c0:Tryz.prog.cellsOf 5=1:=by kernel_rfl
 have c1:Tryz.prog.cellsOf 3=1:=by kernel_rfl
 have c2:Tryz.prog.cellsOf 22=1:=by kernel_rfl
 obtain⟨xs,n,rfl,rfl,hl,hlen,hf⟩:=DataW.trod_struct Tryz.underlying24 h
 rw[hC]at hl
 match cs,hl with
 | [v0,v1,v2],_=>
  match xs,hlen with
  | [y0,y1,y2],_=>
   have h0:DataW.trod enc Tryz.prog W 0 (fun _=>true) held n 5 (([v0,v1,v2].drop 0).take (Tryz.prog.cellsOf 5))=some y0:=hf 0 _ rfl
   rw[c0]at h0
   have h1:DataW.trod enc Tryz.prog W 0 (fun _=>true) held n 3 (([v0,v1,v2].drop 1).take (Tryz.prog.cellsOf 3))=some y1:=hf 1 _ rfl
   rw[c1]at h1
   have h2:DataW.trod enc Tryz.prog W 0 (fun _=>true) held n 22 (([v0,v1,v2].drop 2).take (Tryz.prog.cellsOf 22))=some y2:=hf 2 _ rfl
   rw[c2]at h2
   obtain⟨a0,e0,_,w0⟩:=DataW.trod_int Tryz.underlying5 h0
   obtain⟨a1,e1,_,w1⟩:=DataW.trod_int Tryz.underlying3 h1
   simp only[List.drop_succ_cons,List.drop_zero,List.take_succ_cons,List.take_zero,List.cons.injEq,and_true]at e0 e1 h2
   subst e0 e1
   simp only[List.map_cons,List.map_nil,DataW.weights,Tryz.underlying24,DataW.weightsEach,List.mem_append,List.mem_cons]at hw
   have q2:=open_Vls h2 (fun k hk=>hw k (.inr (.inr (.inl hk))))
   obtain⟨v,l,em,hcap,hz,hv⟩:=q2
   simp only[List.cons.injEq,and_true]at em
   subst em
   have h1c:v2.oneCell'=true:=by
    obtain⟨_,_,_,rfl,_⟩:=hcap
    rfl
   exact⟨⟨a0,a1,⟨v2,h1c⟩,l⟩,rfl,⟨hv,ld_len Tryz.underlying22 (of_decide_eq_true (by kernel_rfl)) h2 rfl (fun k hk=>hw k (.inr (.inr (.inl hk)))) hv,fun v hv=>(hz v hv).t⟩,hz⟩
end Go.Proofs.YtmnafjonbeihiaaGreatDoor
