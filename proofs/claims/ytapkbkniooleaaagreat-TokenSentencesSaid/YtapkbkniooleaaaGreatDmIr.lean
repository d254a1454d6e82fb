/- The seat's functions, all parts. -/
import Derived.Test.YtapkbkniooleaaaGreatDmTy
import Derived.Test.YtapkbkniooleaaaGreatDmIr0
import Derived.Test.YtapkbkniooleaaaGreatDmIr1
import Derived.Test.YtapkbkniooleaaaGreatDmIr2
import Derived.Test.YtapkbkniooleaaaGreatDmIr3
namespace Go.Proofs.YtapkbkniooleaaaGreat.Vs
set_option linter.unusedVariables false
set_option maxRecDepth 100000
end Go.Proofs.YtapkbkniooleaaaGreat.Vs
