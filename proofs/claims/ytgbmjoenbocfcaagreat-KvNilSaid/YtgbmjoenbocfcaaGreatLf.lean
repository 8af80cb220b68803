import Derived.Test.YtgbmjoenbocfcaaGreatTy
import Derived.Test.YtgbmjoenbocfcaaGreatFwY
import Derived.Test.YtgbmjoenbocfcaaGreatRows
import Derived.Carry
set_option linter.unusedSimpArgs false
set_option linter.unusedVariables false
set_option maxRecDepth 8000
namespace Go.Proofs.YtgbmjoenbocfcaaGreat
open Go Go.Fx Go.Proofs Go.ChangeShapes Go.WideShapes Go.ChangeAt Go.RowKit
theorem lf_own:ownKnob Tryz.prog.godebug=none:=by kernel_rfl
theorem lf_laidOut:laidOutB Tryz.prog=true:=by kernel_rfl
theorem lf_i64{F:Int}(h:(Lit.int .i64 F).wf=true): -9223372036854775808≤F∧F≤9223372036854775807:=by
 have e1:IntKind.i64.min= -9223372036854775808:=rfl
 have e2:IntKind.i64.max=9223372036854775807:=rfl
 simp only[Lit.wf,e1,e2,Bool.and_eq_true,decide_eq_true_eq]at h
 exact h
theorem lf_text{H:Type}{enc:TypeId×Value→H}{W:World}{held:Bool}{v:Value}{d:DataW H}{ps:List MemPlace}{t:TypeId}{r:Reach}{b0:Nat}(ht:Tryz.prog.underlying t=some .string)(hval:Value.okWide Tryz.prog W r b0 t v)(h:DataW.Trod enc Tryz.prog W 0 (fun _=>true) held t v d ps)
  (hw:∀ k∈d.weights Tryz.prog t,k≤reachBytes):∃ s:ByteArray,v= .string s∧s.size≤140737488355328:=by
 obtain⟨s,rfl⟩:=okWide_string ht hval
 obtain⟨fuel,hf⟩:=h
 obtain⟨a,e,d1,_⟩:=DataW.trod_string ht hf
 have e':(Value.string s).cells.toList=[Value.string s]:=rfl
 rw[e']at e
 simp only[List.cons.injEq,Value.string.injEq,and_true]at e
 subst e
 simp only[Prod.mk.injEq]at d1
 obtain⟨rfl,_⟩:=d1
 refine⟨s,rfl,?_⟩
 have:=hw s.data.toList.length (by simp[DataW.weights,ht])
 have hr:reachBytes≤140737488355328:=by decide
 have e3:s.data.toList.length=s.size:=by simp
 omega
end Go.Proofs.YtgbmjoenbocfcaaGreat
