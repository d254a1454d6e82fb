/- Small facts on words and rows of numbers. -/
import Derived.Test.YtapkbkniooleaaaDoorFnC
namespace Go.Proofs.YtapkbkniooleaaaDoor.Vs
set_option linter.unusedVariables false
set_option linter.unusedSimpArgs false
set_option maxRecDepth 20000
end Go.Proofs.YtapkbkniooleaaaDoor.Vs
