/- numbers of YtapkbkniooleaaaDoor -/
import Derived.Test.YtapkbkniooleaaaDoorSp1
import Derived.Test.YtapkbkniooleaaaDoorTkW1
namespace Go.Proofs.YtapkbkniooleaaaDoor.Vs
set_option linter.unusedVariables false
set_option linter.unusedSimpArgs false
set_option maxRecDepth 100000
end Go.Proofs.YtapkbkniooleaaaDoor.Vs
