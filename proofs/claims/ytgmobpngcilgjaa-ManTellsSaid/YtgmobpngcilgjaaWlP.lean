/- A wal, in plain Lean. -/
import Derived.Test.YtgmobpngcilgjaaFrP
import Derived.Test.YtgmobpngcilgjaaDkQ
import Derived.Test.YtgmobpngcilgjaaFrX
set_option linter.unusedVariables false
namespace Go.Proofs.Ytgmobpngcilgjaa
open Go Go.Fx Go.Pl

structure Wv where
  n : Int
  size : Int
  fault : Int
/-- What an opening answers: the disk, the error, the records, how many bytes. -/
def openT (d : Dk) (nm : BA) : Dk × Int := if (scanOf (d.read nm 0 16777216).1).2.2 = 70 then d.truncate nm ((scanOf (d.read nm 0 16777216).1).2.1 : Int) else (d, 0)
def openS (d : Dk) : Dk × Int := if 0 < d.loose.length then d.sync else (d, 0)
def openW (d : Dk) (nm : BA) : Dk × Int × List BA × Nat :=
  if (d.read nm 0 16777216).2 ≠ 0 ∧ (d.read nm 0 16777216).2 ≠ 3 then (d, (d.read nm 0 16777216).2, [], 0) else
  if (scanOf (d.read nm 0 16777216).1).2.2 = 71 then (d, 71, [], 0) else
  if (openT d nm).2 ≠ 0 then ((openT d nm).1, (openT d nm).2, [], 0) else
  if (openS (openT d nm).1).2 ≠ 0 then ((openS (openT d nm).1).1, (openS (openT d nm).1).2, [], 0) else
  ((openS (openT d nm).1).1, 0, (scanOf (d.read nm 0 16777216).1).1, (scanOf (d.read nm 0 16777216).1).2.1)
/-- Behind a step that answered so. -/
def Wv.down (w : Wv) (e : Int) : Wv := if e ≠ 0 ∧ e ≠ 4 then { w with fault := e } else w
def appendW (w : Wv) (d : Dk) (nm : BA) (l : List BA) : Wv × Dk × Int :=
  if w.fault ≠ 0 then (w, d, w.fault) else
  if allOk l = false then (w, d, 5) else
  if l.length = 0 then (w, d, 0) else
  if (d.append nm (framesOf l)).2 ≠ 0 then (w.down (d.append nm (framesOf l)).2, (d.append nm (framesOf l)).1, (d.append nm (framesOf l)).2) else
  if (d.append nm (framesOf l)).1.sync.2 ≠ 0 then (w.down (d.append nm (framesOf l)).1.sync.2, (d.append nm (framesOf l)).1.sync.1, (d.append nm (framesOf l)).1.sync.2) else
  (⟨w.n + l.length, w.size + lenT l, w.fault⟩, (d.append nm (framesOf l)).1.sync.1, 0)
def rem3 (d : Dk) (nm : BA) : Int := if (d.remove nm).2 = 3 then 0 else (d.remove nm).2
def remS (d : Dk) (nm : BA) : Dk × Int := if (d.remove nm).2 = 3 then ((d.remove nm).1, 0) else (d.remove nm).1.sync
def resetW (w : Wv) (d : Dk) (nm : BA) : Wv × Dk × Int :=
  if w.fault ≠ 0 then (w, d, w.fault) else
  if rem3 d nm ≠ 0 then (w.down (rem3 d nm), (d.remove nm).1, rem3 d nm) else
  if (remS d nm).2 ≠ 0 then (w.down (remS d nm).2, (remS d nm).1, (remS d nm).2) else
  (⟨0, 0, w.fault⟩, (remS d nm).1, 0)
end Go.Proofs.Ytgmobpngcilgjaa
