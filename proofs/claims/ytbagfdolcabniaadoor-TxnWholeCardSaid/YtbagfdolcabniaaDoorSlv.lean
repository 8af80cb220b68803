/- The shelf's contract on unicode/utf8.ValidString at this program: written by the kit's lay-plain.mjs (tools/slv.sh). -/
import Derived.Shelf.Unicode.ValidAny
import Derived.Test.YtbagfdolcabniaaDoorProg
namespace Go.Proofs
open Go.Shelf
def Tryd.laysValid_ren : Go.Shelf.Ren := ⟨fun | 196 => 141 | 259 => 163 | n => n, fun | 9 => 9 | 4 => 4 | 3 => 3 | 5 => 5 | 12 => 12 | 119 => 224 | 0 => 0 | 46 => 197 | 139 => 227 | 138 => 226 | 53 => 29 | n => n, fun | 3 => 0 | 4 => 1 | n => n⟩
theorem Tryd.laysValid : Go.Proofs.Lays.n196 Tryd.prog Tryd.laysValid_ren := {
  mixed := by kernel_rfl
  f196 := Tryd.func141.trans (congrArg some (by kernel_rfl))
  f259 := Tryd.func163.trans (congrArg some (by kernel_rfl))
  t0 := Tryd.underlying0
  a0 := Tryd.isAgg0
  z0 := Tryd.sizeOf0
  v0 := Tryd.zeroValue0
  t3 := Tryd.underlying3
  a3 := Tryd.isAgg3
  z3 := Tryd.sizeOf3
  v3 := Tryd.zeroValue3
  t4 := Tryd.underlying4
  a4 := Tryd.isAgg4
  z4 := Tryd.sizeOf4
  v4 := Tryd.zeroValue4
  t5 := Tryd.underlying5
  a5 := Tryd.isAgg5
  z5 := Tryd.sizeOf5
  v5 := Tryd.zeroValue5
  t9 := Tryd.underlying9
  a9 := Tryd.isAgg9
  z9 := Tryd.sizeOf9
  v9 := Tryd.zeroValue9
  t12 := Tryd.underlying12
  a12 := Tryd.isAgg12
  z12 := Tryd.sizeOf12
  v12 := Tryd.zeroValue12
  t46 := Tryd.underlying197
  a46 := Tryd.isAgg197
  z46 := Tryd.sizeOf197
  v46 := Tryd.zeroValue197
  t53 := Tryd.underlying29
  a53 := Tryd.isAgg29
  z53 := Tryd.sizeOf29
  v53 := Tryd.zeroValue29
  t119 := Tryd.underlying224
  a119 := Tryd.isAgg224
  z119 := Tryd.sizeOf224
  t138 := Tryd.underlying226
  a138 := Tryd.isAgg226
  z138 := Tryd.sizeOf226
  v138 := Tryd.zeroValue226
  t139 := Tryd.underlying227
  a139 := Tryd.isAgg227
  z139 := Tryd.sizeOf227
  v139 := Tryd.zeroValue227
  g3 := by kernel_rfl
  g4 := by kernel_rfl }
end Go.Proofs
