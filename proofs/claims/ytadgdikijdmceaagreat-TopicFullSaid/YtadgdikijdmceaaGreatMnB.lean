import Derived.Test.YtadgdikijdmceaaGreatMnP
import Derived.Test.YtadgdikijdmceaaGreatG4
set_option linter.unusedSimpArgs false
set_option linter.unusedVariables false
set_option maxRecDepth 100000
namespace Go.Proofs.YtadgdikijdmceaaGreat
open Go Go.Fx Go.Proofs Go.Pl

def put8 (n : Int) : BA := ⟨(putL n.toNat 8).toArray⟩
def put8s : List Int → BA
  | [] => ⟨#[]⟩
  | n :: l => put8 n ++ put8s l
def mNums (m : Mn) : List Int := m.wal :: m.next :: (m.runs.length : Int) :: m.runs
def mBody (m : Mn) : BA := put8s (mNums m)
def mBytes (m : Mn) : BA := frameOf (mBody m)

end Go.Proofs.YtadgdikijdmceaaGreat
