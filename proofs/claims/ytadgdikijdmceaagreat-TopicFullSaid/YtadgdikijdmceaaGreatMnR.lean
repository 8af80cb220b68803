import Derived.Test.YtadgdikijdmceaaGreatMnB
import Derived.Test.YtadgdikijdmceaaGreatMnQ
import Derived.Test.YtadgdikijdmceaaGreatG7
import Derived.Test.YtadgdikijdmceaaGreatG2
set_option linter.unusedVariables false
set_option maxRecDepth 20000
namespace Go.Proofs.YtadgdikijdmceaaGreat
open Go Go.Fx Go.Pl

def mA : Mn := ⟨1, [], 2⟩
def mB : Mn := ⟨2, [], 3⟩
def nM : BA := ⟨#[109]⟩
def nX : BA := ⟨#[120]⟩
def M0 : Dk := newD 1000
def M1 : Dk := (saveD nM (mBytes mA) M0).1
def M2 : Dk := M1.fuseTo 2
def M3 : Dk := (saveD nM (mBytes mB) M2).1
def M4 : Dk := M3.crash 0 0
end Go.Proofs.YtadgdikijdmceaaGreat
