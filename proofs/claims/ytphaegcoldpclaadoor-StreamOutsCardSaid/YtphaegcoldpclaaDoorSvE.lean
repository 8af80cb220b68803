import Derived.Test.YtphaegcoldpclaaDoorG4
import Derived.Test.YtphaegcoldpclaaDoorG3
import Derived.Sort.Statements
set_option linter.unusedSimpArgs false
set_option linter.unusedVariables false
set_option maxRecDepth 100000
namespace Go.Proofs.YtphaegcoldpclaaDoor
open Go Go.Fx Go.Proofs Go.Pl

end Go.Proofs.YtphaegcoldpclaaDoor
