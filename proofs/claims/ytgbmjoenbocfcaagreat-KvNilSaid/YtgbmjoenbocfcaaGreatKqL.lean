import Derived.Test.YtgbmjoenbocfcaaGreatG30
import Derived.Test.YtgbmjoenbocfcaaGreatLfK
set_option linter.unusedSimpArgs false
set_option linter.unusedVariables false
set_option maxRecDepth 8000
namespace Go.Proofs.YtgbmjoenbocfcaaGreat
open Go Go.Fx Go.Proofs Go.Pl Go.ChangeShapes Go.WideShapes Go.ChangeAt Go.RowKit
set_option maxRecDepth 100000 in
theorem kvNil_lifted(os:Os)(started:os.Started)(H:Type)(enc:TypeId×Value→H):
  ReturnsInHanded {} Tryz.checked os 3 .any (Rows.kvNilSpec.pre6 enc Tryz.prog Tryz.f3 Rows.kvNilRow.domain false) (Rows.kvNilSpec.post enc Tryz.prog Tryz.f3 false true false false):=by
 refine returnsInHanded_of_change_sized (C:=Tryz.checked) lf_own started (by kernel_rfl) Tryz.func3
  (ChangeSpec.witness6 (enc:=enc) (C:=Tryz.checked) false ⟨#[],#[.agg #[.int .i64 0,.slice none 0 0,.string ⟨#[]⟩,.string ⟨#[]⟩,.int .i64 0,.int .i64 0,.int .i64 0,.int .u8 0],.string ⟨#[]⟩],[]⟩ 8 (by kernel_rfl) (by kernel_rfl) (by kernel_rfl) (by kernel_rfl)) ?_
 intro W base args ds gs before hval0 hW _ hsz _
 have hval:∀ (j:Nat) t v,Tryz.f3.params[j]? =some t→args[j]? =some v→Value.okWide Tryz.prog W .any base t v:=hval0
 have hW':=hW
 obtain⟨p,q,hA0,hV,rfl,_,_⟩:=hW
 have hA:DataW.TrodAll enc Tryz.prog W 0 (fun _=>true) true Tryz.f3.params.toList args.toList ds p:=hA0
 rw[Tryz.params3]at hA hval
 obtain⟨v0,v1,d0,d1,p0,p1,rfl,rfl,rfl,h0,h1⟩:=trodAll_two hA
 obtain⟨rfl,rfl⟩:=trodVars_none hV
 have hsz':(DataW.weightsEach Tryz.prog [24,9] [d0,d1]).all (· ≤reachBytes)=true:=hsz
 have hszj:∀ (j:Nat) t d,[24,9][j]? =some t→[d0,d1][j]? =some d→∀ k∈d.weights Tryz.prog t,k≤reachBytes:=fun j t d ht hd k hk=>by
  have:=List.all_eq_true.1 hsz' k (DataW.weights_mem_each (j:=j) ht hd k hk)
  simpa using this
 obtain⟨cs0,rfl,_⟩:=okWide_struct Tryz.underlying24 (hval 0 24 v0 rfl rfl)
 obtain⟨fuel0,hf0⟩:=h0
 obtain⟨x0,hx0,hq0⟩:=open_Ks hf0 (hszj 0 _ _ rfl rfl)
 have hcs0:cs0=(ksV x0).toArray:=Array.ext' (by have e:(Value.agg cs0).cells.toList=cs0.toList:=rfl;rw[← e,hx0])
 subst hcs0
 obtain⟨s1,rfl,z1⟩:=lf_text Tryz.underlying9 (hval 1 9 v1 rfl rfl) h1 (hszj 1 _ _ rfl rfl)
 refine(calls_true_orig (KvNil_spec (orig W) x0 s1 hq0.r z1)).mono fun e W' ⟨he,hnx⟩=>?_
 subst he
 refine⟨_,rfl,_,_,_,[],p0++p1,[],hW',?_,?_,rfl,hnx.frame _,fun h=>by cases h⟩
 ·exact trodAll_mk1 (shut_bool Tryz.underlying4 true)
 ·exact below_trodAll lf_laidOut hnx (by kernel_rfl) hA0 (fun x hx=>by have:=hW'.lt x (by simpa using hx);simpa using this)
theorem kvNil_holds:Rows.KvNilSaid:=
 OpenClaim.holds_of_wide 3 Tryz.f3 rfl rfl rfl rfl rfl rfl rfl ⟨rfl,rfl,rfl,rfl,rfl⟩ rfl rfl rfl rfl rfl (by kernel_rfl) Tryz.func3 (by kernel_rfl)
  (of_decide_eq_true (by kernel_rfl)) (by unfold Func.isWrapper;first|(rw[if_pos (by decide +kernel)];kernel_rfl)|(rw[if_neg (by decide +kernel)];exact⟨rfl,rfl⟩))
  (fun os started H enc _=>kvNil_lifted os started H enc)
end Go.Proofs.YtgbmjoenbocfcaaGreat
