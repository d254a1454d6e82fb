/- The order of words is a total order. -/
import Derived.Sort.Walk0
import Derived.Sort.Statements
import Derived.Test.YtapkbkniooleaaaDoorFnC
namespace Go.Proofs.YtapkbkniooleaaaDoor.Vs
open Go.Sort
set_option linter.unusedVariables false
set_option linter.unusedSimpArgs false
end Go.Proofs.YtapkbkniooleaaaDoor.Vs
