import Derived.Test.YtmnafjonbeihiaaGreatDoorTy
import Derived.Test.YtmnafjonbeihiaaGreatDoorFwY
import Derived.Test.YtmnafjonbeihiaaGreatDoorRows
import Derived.Carry
set_option linter.unusedSimpArgs false
set_option linter.unusedVariables false
set_option maxRecDepth 8000
namespace Go.Proofs.YtmnafjonbeihiaaGreatDoor
open Go Go.Fx Go.Proofs Go.ChangeShapes Go.WideShapes Go.ChangeAt Go.RowKit
theorem lf_own:ownKnob Tryz.prog.godebug=none:=by kernel_rfl
theorem lf_laidOut:laidOutB Tryz.prog=true:=by kernel_rfl
theorem lf_u64{F:Int}(h:(Lit.int .u64 F).wf=true):0≤F∧F≤18446744073709551615:=by
 have e1:IntKind.u64.min=0:=rfl
 have e2:IntKind.u64.max=18446744073709551615:=rfl
 simp only[Lit.wf,e1,e2,Bool.and_eq_true,decide_eq_true_eq]at h
 exact h
theorem lf_i64{F:Int}(h:(Lit.int .i64 F).wf=true): -9223372036854775808≤F∧F≤9223372036854775807:=by
 have e1:IntKind.i64.min= -9223372036854775808:=rfl
 have e2:IntKind.i64.max=9223372036854775807:=rfl
 simp only[Lit.wf,e1,e2,Bool.and_eq_true,decide_eq_true_eq]at h
 exact h
theorem lf_u8{F:Int}(h:(Lit.int .u8 F).wf=true):0≤F∧F≤255:=by
 have e1:IntKind.u8.min=0:=rfl
 have e2:IntKind.u8.max=255:=rfl
 simp only[Lit.wf,e1,e2,Bool.and_eq_true,decide_eq_true_eq]at h
 exact h
end Go.Proofs.YtmnafjonbeihiaaGreatDoor
