/- numbers of Ytapkbkniooleaaa -/
import Derived.Test.YtapkbkniooleaaaTkN
namespace Go.Proofs.Ytapkbkniooleaaa.Vs
set_option linter.unusedVariables false
set_option linter.unusedSimpArgs false
set_option maxRecDepth 100000
end Go.Proofs.Ytapkbkniooleaaa.Vs
