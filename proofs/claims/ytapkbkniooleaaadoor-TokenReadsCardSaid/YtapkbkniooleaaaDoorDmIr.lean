/- The seat's functions, all parts. -/
import Derived.Test.YtapkbkniooleaaaDoorDmTy
import Derived.Test.YtapkbkniooleaaaDoorDmIr0
import Derived.Test.YtapkbkniooleaaaDoorDmIr1
import Derived.Test.YtapkbkniooleaaaDoorDmIr2
import Derived.Test.YtapkbkniooleaaaDoorDmIr3
import Derived.Test.YtapkbkniooleaaaDoorDmIr4
namespace Go.Proofs.YtapkbkniooleaaaDoor.Vs
set_option linter.unusedVariables false
set_option maxRecDepth 100000
end Go.Proofs.YtapkbkniooleaaaDoor.Vs
