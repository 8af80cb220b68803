import Derived.Test.YtphaegcoldpclaaDoorG4
set_option linter.unusedSimpArgs false
set_option linter.unusedVariables false
namespace Go.Proofs.YtphaegcoldpclaaDoor
open Go Go.Fx Go.Proofs Go.Pl

abbrev Rw := V1s × List Vl
def rwV (x : Rw) : List Value := [x.1.1]
end Go.Proofs.YtphaegcoldpclaaDoor
