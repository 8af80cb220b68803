import Derived.Test.YtadgdikijdmceaaGreatY
import Derived.Test.YtadgdikijdmceaaGreatG3
namespace Go.Proofs.YtadgdikijdmceaaGreat
open Go Go.Fx Go.Proofs Go.Pl
abbrev V1s := { v : Value // v.oneCell' = true }
end Go.Proofs.YtadgdikijdmceaaGreat
