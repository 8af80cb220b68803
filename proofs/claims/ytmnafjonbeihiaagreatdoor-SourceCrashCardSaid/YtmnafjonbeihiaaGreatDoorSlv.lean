import Derived.Shelf.Unicode.ValidAny
import Derived.Test.YtmnafjonbeihiaaGreatDoorProg
namespace Go.Proofs
open Go.Shelf
def Tryz.laysValid_ren:Go.Shelf.Ren:=⟨fun|196=>241|259=>264|n=>n,fun|9=>9|4=>4|3=>3|5=>5|12=>12|119=>334|0=>0|46=>218|139=>337|138=>336|53=>25|n=>n,fun|3=>0|4=>1|n=>n⟩
theorem Tryz.laysValid:Go.Proofs.Lays.n196 Tryz.prog Tryz.laysValid_ren:={
 mixed:=by kernel_rfl
 f196:=Tryz.func241.trans (congrArg some (by kernel_rfl))
 f259:=Tryz.func264.trans (congrArg some (by kernel_rfl))
 t0:=Tryz.underlying0
 a0:=Tryz.isAgg0
 z0:=Tryz.sizeOf0
 v0:=Tryz.zeroValue0
 t3:=Tryz.underlying3
 a3:=Tryz.isAgg3
 z3:=Tryz.sizeOf3
 v3:=Tryz.zeroValue3
 t4:=Tryz.underlying4
 a4:=Tryz.isAgg4
 z4:=Tryz.sizeOf4
 v4:=Tryz.zeroValue4
 t5:=Tryz.underlying5
 a5:=Tryz.isAgg5
 z5:=Tryz.sizeOf5
 v5:=Tryz.zeroValue5
 t9:=Tryz.underlying9
 a9:=Tryz.isAgg9
 z9:=Tryz.sizeOf9
 v9:=Tryz.zeroValue9
 t12:=Tryz.underlying12
 a12:=Tryz.isAgg12
 z12:=Tryz.sizeOf12
 v12:=Tryz.zeroValue12
 t46:=Tryz.underlying218
 a46:=Tryz.isAgg218
 z46:=Tryz.sizeOf218
 v46:=Tryz.zeroValue218
 t53:=Tryz.underlying25
 a53:=Tryz.isAgg25
 z53:=Tryz.sizeOf25
 v53:=Tryz.zeroValue25
 t119:=Tryz.underlying334
 a119:=Tryz.isAgg334
 z119:=Tryz.sizeOf334
 t138:=Tryz.underlying336
 a138:=Tryz.isAgg336
 z138:=Tryz.sizeOf336
 v138:=Tryz.zeroValue336
 t139:=Tryz.underlying337
 a139:=Tryz.isAgg337
 z139:=Tryz.sizeOf337
 v139:=Tryz.zeroValue337
 g3:=by kernel_rfl
 g4:=by kernel_rfl}
end Go.Proofs
