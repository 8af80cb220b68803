/- Texts merged: MnB MnR. -/
import Derived.Test.YtmnafjonbeihiaaGreatDoorJ3
import Derived.Test.YtmnafjonbeihiaaGreatDoorG14
import Derived.Test.YtmnafjonbeihiaaGreatDoorG20
import Derived.Test.YtmnafjonbeihiaaGreatDoorJ1
set_option linter.unusedSimpArgs false
set_option linter.unusedVariables false
set_option maxRecDepth 100000
namespace Go.Proofs.YtmnafjonbeihiaaGreatDoor
open Go Go.Fx Go.Proofs Go.Pl
def put8 (n : Int) : BA := ⟨(putL n.toNat 8).toArray⟩
def put8s : List Int → BA
  | [] => ⟨#[]⟩
  | n :: l => put8 n ++ put8s l
def mNums (m : Mn) : List Int := m.wal :: m.next :: (m.runs.length : Int) :: m.runs
def mBody (m : Mn) : BA := put8s (mNums m)
def mBytes (m : Mn) : BA := frameOf (mBody m)
end Go.Proofs.YtmnafjonbeihiaaGreatDoor
set_option maxRecDepth 20000
namespace Go.Proofs.YtmnafjonbeihiaaGreatDoor
open Go Go.Fx Go.Pl
def mA : Mn := ⟨1, [], 2⟩
def mB : Mn := ⟨2, [], 3⟩
def nM : BA := ⟨#[109]⟩
def nX : BA := ⟨#[120]⟩
def M0 : Dk := newD 1000
def M1 : Dk := (saveD nM (mBytes mA) M0).1
def M2 : Dk := M1.fuseTo 2
def M3 : Dk := (saveD nM (mBytes mB) M2).1
def M4 : Dk := M3.crash 0 0
end Go.Proofs.YtmnafjonbeihiaaGreatDoor
