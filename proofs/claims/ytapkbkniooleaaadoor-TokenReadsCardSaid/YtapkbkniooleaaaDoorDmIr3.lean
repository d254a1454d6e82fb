/- The seat's functions as the engine Dm reads them, written by dgen.py. -/
import Derived.Test.YtapkbkniooleaaaDoorDmFn
import Derived.Test.YtapkbkniooleaaaDoorProg
import Derived.KernelRfl
namespace Go.Proofs.YtapkbkniooleaaaDoor.Vs
set_option linter.unusedVariables false
set_option maxRecDepth 100000
end Go.Proofs.YtapkbkniooleaaaDoor.Vs
