/- The seat's functions, all parts. -/
import Derived.Test.YtapkbkniooleaaaDmTy
import Derived.Test.YtapkbkniooleaaaDmIr0
import Derived.Test.YtapkbkniooleaaaDmIr1
import Derived.Test.YtapkbkniooleaaaDmIr2
import Derived.Test.YtapkbkniooleaaaDmIr3
namespace Go.Proofs.Ytapkbkniooleaaa.Vs
set_option linter.unusedVariables false
set_option maxRecDepth 100000
end Go.Proofs.Ytapkbkniooleaaa.Vs
