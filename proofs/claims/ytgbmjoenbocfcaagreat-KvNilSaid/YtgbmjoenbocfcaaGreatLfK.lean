import Derived.Test.YtgbmjoenbocfcaaGreatG30
import Derived.Test.YtgbmjoenbocfcaaGreatLf
set_option linter.unusedSimpArgs false
set_option linter.unusedVariables false
set_option maxRecDepth 8000
namespace Go.Proofs.YtgbmjoenbocfcaaGreat
open Go Go.Fx Go.Proofs Go.Pl Go.ChangeShapes Go.WideShapes Go.ChangeAt Go.RowKit
theorem open_Pr{H:Type}{enc:TypeId×Value→H}{W:World}{held:Bool}{fuel:Nat}{cs:List Value}{y:DataW H×List MemPlace}(h:DataW.trod enc Tryz.prog W 0 (fun _=>true) held fuel 65 cs=some y)
  (hw:∀ k∈y.1.weights Tryz.prog 65,k≤reachBytes):∃ x:Pr,cs=prV x∧x.k.size≤140737488355328∧x.v.size≤140737488355328:=by
 have hC:Tryz.prog.cellsOf 65=3:=by kernel_rfl
 have hrb:reachBytes≤140737488355328:=by decide
 have c0:Tryz.prog.cellsOf 9=1:=by kernel_rfl
 have c1:Tryz.prog.cellsOf 4=1:=by kernel_rfl
 obtain⟨xs,n,rfl,rfl,hl,hlen,hf⟩:=DataW.trod_struct Tryz.underlying65 h
 rw[hC]at hl
 match cs,hl with
 | [v0,v1,v2],_=>
  match xs,hlen with
  | [y0,y1,y2],_=>
   have h0:DataW.trod enc Tryz.prog W 0 (fun _=>true) held n 9 (([v0,v1,v2].drop 0).take (Tryz.prog.cellsOf 9))=some y0:=hf 0 _ rfl
   rw[c0]at h0
   have h1:DataW.trod enc Tryz.prog W 0 (fun _=>true) held n 9 (([v0,v1,v2].drop 1).take (Tryz.prog.cellsOf 9))=some y1:=hf 1 _ rfl
   rw[c0]at h1
   have h2:DataW.trod enc Tryz.prog W 0 (fun _=>true) held n 4 (([v0,v1,v2].drop 2).take (Tryz.prog.cellsOf 4))=some y2:=hf 2 _ rfl
   rw[c1]at h2
   obtain⟨a0,e0,d0,_⟩:=DataW.trod_string Tryz.underlying9 h0
   obtain⟨a1,e1,d1,_⟩:=DataW.trod_string Tryz.underlying9 h1
   obtain⟨a2,e2,_⟩:=DataW.trod_bool Tryz.underlying4 h2
   simp only[List.drop_succ_cons,List.drop_zero,List.take_succ_cons,List.take_zero,List.cons.injEq,and_true]at e0 e1 e2
   subst e0 e1 e2
   simp only[List.map_cons,List.map_nil,DataW.weights,Tryz.underlying65,DataW.weightsEach,List.mem_append,List.mem_cons]at hw
   have z0:a0.size≤140737488355328:=by
    subst d0
    have:=hw a0.data.toList.length (.inl (by simp only[DataW.weights,Tryz.underlying9];first|exact List.mem_singleton.2 rfl|simp))
    have e':a0.data.toList.length=a0.size:=by simp
    omega
   have z1:a1.size≤140737488355328:=by
    subst d1
    have:=hw a1.data.toList.length (.inr (.inl (by simp only[DataW.weights,Tryz.underlying9];first|exact List.mem_singleton.2 rfl|simp)))
    have e':a1.data.toList.length=a1.size:=by simp
    omega
   exact⟨⟨a0,a1,a2⟩,rfl,z0,z1⟩
instance:Inhabited Pr:=⟨⟨⟨#[]⟩,⟨#[]⟩,false⟩⟩
theorem open_Prs{H:Type}{enc:TypeId×Value→H}{W:World}{held:Bool}{fuel:Nat}{cs:List Value}{y:DataW H×List MemPlace}(h:DataW.trod enc Tryz.prog W 0 (fun _=>true) held fuel 22 cs=some y)
  (hw:∀ k∈y.1.weights Tryz.prog 22,k≤reachBytes):∃ (v:Value) (l:List Pr),cs=[v]∧capOk v∧(∀ x∈l,(fun x:Pr=>x.k.size≤140737488355328∧x.v.size≤140737488355328) x)∧Vw (orig W) 3 v (l.map prV):=
 open_viewC (e:=65) (n:=3) Tryz.underlying22 (by kernel_rfl) (by decide) h hw prV (fun x:Pr=>x.k.size≤140737488355328∧x.v.size≤140737488355328) (fun x=>⟨rfl,rfl⟩) (fun fuel cs y h hw=>open_Pr h hw)
structure KsG(A:HProp)(x:Ks):Prop where
 r:KsOk A x
 cap:capOk x.v.1
 n: -9223372036854775808≤x.n∧x.n≤9223372036854775807
 m: -9223372036854775808≤x.m∧x.m≤9223372036854775807
 left: -9223372036854775808≤x.left∧x.left≤9223372036854775807
instance:Inhabited Ks:=⟨⟨0,[],⟨.slice none 0 0,rfl⟩,⟨#[]⟩,⟨#[]⟩,0,0,0,0⟩⟩
theorem open_Ks{H:Type}{enc:TypeId×Value→H}{W:World}{held:Bool}{fuel:Nat}{cs:List Value}{y:DataW H×List MemPlace}(h:DataW.trod enc Tryz.prog W 0 (fun _=>true) held fuel 24 cs=some y)
  (hw:∀ k∈y.1.weights Tryz.prog 24,k≤reachBytes):∃ x:Ks,cs=ksV x∧KsG (orig W) x:=by
 have hC:Tryz.prog.cellsOf 24=8:=by kernel_rfl
 have hrb:reachBytes≤140737488355328:=by decide
 have c0:Tryz.prog.cellsOf 3=1:=by kernel_rfl
 have c1:Tryz.prog.cellsOf 22=1:=by kernel_rfl
 have c2:Tryz.prog.cellsOf 9=1:=by kernel_rfl
 have c3:Tryz.prog.cellsOf 5=1:=by kernel_rfl
 obtain⟨xs,n,rfl,rfl,hl,hlen,hf⟩:=DataW.trod_struct Tryz.underlying24 h
 rw[hC]at hl
 match cs,hl with
 | [v0,v1,v2,v3,v4,v5,v6,v7],_=>
  match xs,hlen with
  | [y0,y1,y2,y3,y4,y5,y6,y7],_=>
   have h0:DataW.trod enc Tryz.prog W 0 (fun _=>true) held n 3 (([v0,v1,v2,v3,v4,v5,v6,v7].drop 0).take (Tryz.prog.cellsOf 3))=some y0:=hf 0 _ rfl
   rw[c0]at h0
   have h1:DataW.trod enc Tryz.prog W 0 (fun _=>true) held n 22 (([v0,v1,v2,v3,v4,v5,v6,v7].drop 1).take (Tryz.prog.cellsOf 22))=some y1:=hf 1 _ rfl
   rw[c1]at h1
   have h2:DataW.trod enc Tryz.prog W 0 (fun _=>true) held n 9 (([v0,v1,v2,v3,v4,v5,v6,v7].drop 2).take (Tryz.prog.cellsOf 9))=some y2:=hf 2 _ rfl
   rw[c2]at h2
   have h3:DataW.trod enc Tryz.prog W 0 (fun _=>true) held n 9 (([v0,v1,v2,v3,v4,v5,v6,v7].drop 3).take (Tryz.prog.cellsOf 9))=some y3:=hf 3 _ rfl
   rw[c2]at h3
   have h4:DataW.trod enc Tryz.prog W 0 (fun _=>true) held n 3 (([v0,v1,v2,v3,v4,v5,v6,v7].drop 4).take (Tryz.prog.cellsOf 3))=some y4:=hf 4 _ rfl
   rw[c0]at h4
   have h5:DataW.trod enc Tryz.prog W 0 (fun _=>true) held n 3 (([v0,v1,v2,v3,v4,v5,v6,v7].drop 5).take (Tryz.prog.cellsOf 3))=some y5:=hf 5 _ rfl
   rw[c0]at h5
   have h6:DataW.trod enc Tryz.prog W 0 (fun _=>true) held n 3 (([v0,v1,v2,v3,v4,v5,v6,v7].drop 6).take (Tryz.prog.cellsOf 3))=some y6:=hf 6 _ rfl
   rw[c0]at h6
   have h7:DataW.trod enc Tryz.prog W 0 (fun _=>true) held n 5 (([v0,v1,v2,v3,v4,v5,v6,v7].drop 7).take (Tryz.prog.cellsOf 5))=some y7:=hf 7 _ rfl
   rw[c3]at h7
   obtain⟨a0,e0,_,w0⟩:=DataW.trod_int Tryz.underlying3 h0
   obtain⟨a2,e2,d2,_⟩:=DataW.trod_string Tryz.underlying9 h2
   obtain⟨a3,e3,d3,_⟩:=DataW.trod_string Tryz.underlying9 h3
   obtain⟨a4,e4,_,w4⟩:=DataW.trod_int Tryz.underlying3 h4
   obtain⟨a5,e5,_,w5⟩:=DataW.trod_int Tryz.underlying3 h5
   obtain⟨a6,e6,_,w6⟩:=DataW.trod_int Tryz.underlying3 h6
   obtain⟨a7,e7,_,w7⟩:=DataW.trod_int Tryz.underlying5 h7
   simp only[List.drop_succ_cons,List.drop_zero,List.take_succ_cons,List.take_zero,List.cons.injEq,and_true]at e0 e2 e3 e4 e5 e6 e7 h1
   subst e0 e2 e3 e4 e5 e6 e7
   simp only[List.map_cons,List.map_nil,DataW.weights,Tryz.underlying24,DataW.weightsEach,List.mem_append,List.mem_cons]at hw
   have q1:=open_Prs h1 (fun k hk=>hw k (.inr (.inl hk)))
   obtain⟨v,l,em,hcap,hz,hv⟩:=q1
   simp only[List.cons.injEq,and_true]at em
   subst em
   have h1c:v1.oneCell'=true:=by
    obtain⟨_,_,_,rfl,_⟩:=hcap
    rfl
   have z2:a2.size≤140737488355328:=by
    subst d2
    have:=hw a2.data.toList.length (.inr (.inr (.inl (by simp only[DataW.weights,Tryz.underlying9];first|exact List.mem_singleton.2 rfl|simp))))
    have e':a2.data.toList.length=a2.size:=by simp
    omega
   have z3:a3.size≤140737488355328:=by
    subst d3
    have:=hw a3.data.toList.length (.inr (.inr (.inr (.inl (by simp only[DataW.weights,Tryz.underlying9];first|exact List.mem_singleton.2 rfl|simp)))))
    have e':a3.data.toList.length=a3.size:=by simp
    omega
   exact⟨⟨a0,l,⟨v1,h1c⟩,a2,a3,a4,a5,a6,a7⟩,rfl,⟨⟨hv,hz,z2,z3⟩,hcap,lf_i64 w4,lf_i64 w5,lf_i64 w6⟩⟩
end Go.Proofs.YtgbmjoenbocfcaaGreat
