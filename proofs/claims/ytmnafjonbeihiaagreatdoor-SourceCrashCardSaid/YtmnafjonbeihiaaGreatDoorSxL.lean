import Derived.Test.YtmnafjonbeihiaaGreatDoorG34
import Derived.Test.YtmnafjonbeihiaaGreatDoorLd
import Derived.Test.YtmnafjonbeihiaaGreatDoorCards
set_option linter.unusedSimpArgs false
set_option linter.unusedVariables false
set_option maxRecDepth 8000
namespace Go.Proofs.YtmnafjonbeihiaaGreatDoor
open Go Go.Fx Go.Proofs Go.Pl Go.ChangeShapes Go.WideShapes Go.ChangeAt Go.RowKit
theorem open_Zs{H:Type}{enc:TypeId×Value→H}{W:World}{held:Bool}{fuel:Nat}{cs:List Value}{y:DataW H×List MemPlace}(h:DataW.trod enc Tryz.prog W 0 (fun _=>true) held fuel 56 cs=some y)
  (hw:∀ k∈y.1.weights Tryz.prog 56,k≤reachBytes):∃ x:Zs,cs=zsV x∧OmR (orig W) x.o∧(∀ v∈x.o.row,v.wf)∧x.n≤9223372036854775807:=by
 have hC:Tryz.prog.cellsOf 56=6:=by kernel_rfl
 have hrb:reachBytes≤140737488355328:=by decide
 have c0:Tryz.prog.cellsOf 3=1:=by kernel_rfl
 have c1:Tryz.prog.cellsOf 24=3:=by kernel_rfl
 obtain⟨xs,n,rfl,rfl,hl,hlen,hf⟩:=DataW.trod_struct Tryz.underlying56 h
 rw[hC]at hl
 match cs,hl with
 | [v0,v1,v2,v3,v4,v5],_=>
  match xs,hlen with
  | [y0,y1,y2,y3],_=>
   have h0:DataW.trod enc Tryz.prog W 0 (fun _=>true) held n 3 (([v0,v1,v2,v3,v4,v5].drop 0).take (Tryz.prog.cellsOf 3))=some y0:=hf 0 _ rfl
   rw[c0]at h0
   have h1:DataW.trod enc Tryz.prog W 0 (fun _=>true) held n 24 (([v0,v1,v2,v3,v4,v5].drop 1).take (Tryz.prog.cellsOf 24))=some y1:=hf 1 _ rfl
   rw[c1]at h1
   have h2:DataW.trod enc Tryz.prog W 0 (fun _=>true) held n 3 (([v0,v1,v2,v3,v4,v5].drop 4).take (Tryz.prog.cellsOf 3))=some y2:=hf 2 _ rfl
   rw[c0]at h2
   have h3:DataW.trod enc Tryz.prog W 0 (fun _=>true) held n 3 (([v0,v1,v2,v3,v4,v5].drop 5).take (Tryz.prog.cellsOf 3))=some y3:=hf 3 _ rfl
   rw[c0]at h3
   obtain⟨a0,e0,_,w0⟩:=DataW.trod_int Tryz.underlying3 h0
   obtain⟨a2,e2,_,w2⟩:=DataW.trod_int Tryz.underlying3 h2
   obtain⟨a3,e3,_,w3⟩:=DataW.trod_int Tryz.underlying3 h3
   simp only[List.drop_succ_cons,List.drop_zero,List.take_succ_cons,List.take_zero,List.cons.injEq,and_true]at e0 e2 e3 h1
   subst e0 e2 e3
   simp only[List.map_cons,List.map_nil,DataW.weights,Tryz.underlying56,DataW.weightsEach,List.mem_append,List.mem_cons]at hw
   have q1:=open_Om h1 (fun k hk=>hw k (.inr (.inl hk)))
   obtain⟨x,ex,hx1,hx2⟩:=q1
   obtain⟨xk,xt,xv,xl⟩:=x
   simp only[opV,List.cons.injEq,and_true]at ex
   obtain⟨rfl,rfl,rfl⟩:=ex
   exact⟨⟨a0,⟨xk,xt,xv,xl⟩,a2,a3⟩,rfl,hx1,hx2,(lf_i64 w2).2⟩
instance:Inhabited Zs:=⟨⟨0,default,0,0⟩⟩
theorem open_Zss{H:Type}{enc:TypeId×Value→H}{W:World}{held:Bool}{fuel:Nat}{cs:List Value}{y:DataW H×List MemPlace}(h:DataW.trod enc Tryz.prog W 0 (fun _=>true) held fuel 47 cs=some y)
  (hw:∀ k∈y.1.weights Tryz.prog 47,k≤reachBytes):∃ (v:Value) (l:List Zs),cs=[v]∧capOk v∧(∀ x∈l,(fun x:Zs=>OmR (orig W) x.o∧(∀ v∈x.o.row,v.wf)∧x.n≤9223372036854775807) x)∧Vw (orig W) 6 v (l.map zsV):=
 open_viewC (e:=56) (n:=6) Tryz.underlying47 (by kernel_rfl) (by decide) h hw zsV (fun x:Zs=>OmR (orig W) x.o∧(∀ v∈x.o.row,v.wf)∧x.n≤9223372036854775807) (fun x=>⟨rfl,by simp only[zsV,oneCells,List.all_cons,List.all_nil,x.o.rv.2,Bool.and_true];rfl⟩) (fun fuel cs y h hw=>open_Zs h hw)
set_option maxRecDepth 100000 in
theorem sourceCrash_lifted(os:Os)(started:os.Started)(H:Type)(enc:TypeId×Value→H):
  ReturnsInHanded {} Tryz.checked os 5 .any (fun w args=>(Rows.sourceCrashSpec.pre enc Tryz.prog Tryz.f5 [] false w args∧laidMetH Tryz.prog Rows.sourceCrashRow.laid w)∧sizedMet enc Tryz.prog Tryz.f5 (OpenSpec.ofChange Rows.sourceCrashSpec) false w args)
   (Rows.sourceCrashSpec.post enc Tryz.prog Tryz.f5 false true false false):=by
 refine returnsInHanded_of_change_and (C:=Tryz.checked) (X:=(fun w _=>laidMetH Tryz.prog Rows.sourceCrashRow.laid w)) (fun _ _ _ hh h=>h.of_heap hh) lf_own started (by kernel_rfl) Tryz.func5
  (
   ChangeSpec.witness_shaped (enc:=enc) (C:=Tryz.checked) (os:=os) (X:=(fun w _=>laidMetH Tryz.prog Rows.sourceCrashRow.laid w)) false (World.laidAll Tryz.prog os Rows.sourceCrashRow.laid) #[.agg #[.slice none 0 0],.slice none 0 0] 8 (World.laidAll_os _ _ _)
   (World.shaped_of_ZipB (by kernel_rfl) (by kernel_rfl)) (by kernel_rfl) (by kernel_rfl) (by kernel_rfl)
   (by rw[MakeChecks.laidMetH_plain _ _ _ (by kernel_rfl)];exact laidMet_laidAll _ (by kernel_rfl) (by kernel_rfl))) ?_
 intro W base args ds gs before hval0 hW _ hsz hL _
 have hUT:UT (orig W):=ld_ut hL
 have hval:∀ (j:Nat) t v,Tryz.f5.params[j]? =some t→args[j]? =some v→Value.okWide Tryz.prog W .any base t v:=hval0
 have hW':=hW
 obtain⟨p,q,hA0,hV,rfl,_,_⟩:=hW
 have hA:DataW.TrodAll enc Tryz.prog W 0 (fun _=>true) true Tryz.f5.params.toList args.toList ds p:=hA0
 rw[Tryz.params5]at hA hval
 obtain⟨v0,v1,d0,d1,p0,p1,rfl,rfl,rfl,h0,h1⟩:=trodAll_two hA
 obtain⟨rfl,rfl⟩:=trodVars_none hV
 have hsz':(DataW.weightsEach Tryz.prog [29,47] [d0,d1]).all (· ≤reachBytes)=true:=hsz
 have hszj:∀ (j:Nat) t d,[29,47][j]? =some t→[d0,d1][j]? =some d→∀ k∈d.weights Tryz.prog t,k≤reachBytes:=fun j t d ht hd k hk=>by
  have:=List.all_eq_true.1 hsz' k (DataW.weights_mem_each (j:=j) ht hd k hk)
  simpa using this
 obtain⟨cs0,rfl,_⟩:=okWide_struct Tryz.underlying29 (hval 0 29 v0 rfl rfl)
 obtain⟨fuel0,hf0⟩:=h0
 obtain⟨x0,hx0,hq0⟩:=open_Sc hf0 (hszj 0 _ _ rfl rfl)
 have hcs0:cs0=(scV x0).toArray:=Array.ext' (by have e:(Value.agg cs0).cells.toList=cs0.toList:=rfl;rw[← e,hx0])
 subst hcs0
 obtain⟨a1,len1,cap1,rfl⟩:=okWide_slice Tryz.underlying47 (hval 1 47 v1 rfl rfl)
 obtain⟨fuel1,hf1⟩:=h1
 obtain⟨u1,l1,ev1,hc1,hp1,hv1⟩:=open_Zss hf1 (hszj 1 _ _ rfl rfl)
 have ee1:(Value.slice a1 len1 cap1).cells.toList=[Value.slice a1 len1 cap1]:=rfl
 rw[ee1]at ev1
 simp only[List.cons.injEq,and_true]at ev1
 subst ev1
 refine(calls_true_ext (SourceCrash_spec x0.1.1 x0.2 (.slice a1 len1 cap1) l1 (orig W) hUT x0.1.2 hq0 ⟨hv1,fun o h=>(hp1 o h).1,ld_len Tryz.underlying47 (of_decide_eq_true (by kernel_rfl)) hf1 rfl (hszj 1 _ _ rfl rfl) hv1⟩ (fun q h=>(hp1 q h).2.1) (fun q h=>(hp1 q h).2.2))).mono fun e W' ⟨he,hnx⟩=>?_
 subst he
 refine⟨_,rfl,_,_,_,[],p0++p1,[],hW',?_,?_,rfl,hnx.frame _,fun h=>by cases h⟩
 ·exact trodAll_mk1 (shut_bool Tryz.underlying4 true)
 ·exact below_trodAll lf_laidOut hnx (by kernel_rfl) hA0 (fun x hx=>by have:=hW'.lt x (by simpa using hx);simpa using this)
theorem sourceCrash_row:Rows.SourceCrashSaid:=
 OpenClaim.holds_of_wide 5 Tryz.f5 rfl rfl rfl rfl rfl rfl rfl ⟨rfl,rfl,rfl,rfl,rfl⟩ rfl rfl rfl rfl rfl (by kernel_rfl) Tryz.func5 (by kernel_rfl)
  (of_decide_eq_true (by kernel_rfl)) (by unfold Func.isWrapper;first|(rw[if_pos (by decide +kernel)];kernel_rfl)|(rw[if_neg (by decide +kernel)];exact⟨rfl,rfl⟩))
  (fun os started H enc _=>sourceCrash_lifted os started H enc)
theorem sourceCrash_holds:Rows.SourceCrashCardSaid:=
 Claim7.holds_tied_plain_at .later [] [.data,.pinned] true Rows.sourceCrashCard.stood.harness Rows.sourceCrashCard.stood.looks
  sourceCrash_row (fun _ h=>by cases h) (by kernel_rfl) (fun _ h=>by cases h) sourceCrash_row_tie rfl ⟨rfl,rfl⟩ (by kernel_rfl) rfl
  (
   fun f fn hf hfn=>by
   obtain rfl:f=5:=Option.some.inj ((show Tryz.prog.funcNamed "fascicle/fasciclelaw17.SourceCrash" =some 5 by kernel_rfl).symm.trans hf)|>.symm
   obtain rfl:fn=Tryz.f5:=(Option.some.inj (Tryz.func5.symm.trans hfn)).symm
   exact⟨by kernel_rfl,fun j t ht=>by
    rw[Tryz.params5]at ht
    have hm:t∈[29,47]:=by simpa using Array.mem_of_getElem? ht
    have hall:([29,47].all fun u=> !Tryz.prog.wantsStandIn u)=true:=by kernel_rfl
    exact(show Tryz.prog.wantsStandIn t=false by simpa using List.all_eq_true.1 hall t hm)⟩)
  (by kernel_rfl)
end Go.Proofs.YtmnafjonbeihiaaGreatDoor
