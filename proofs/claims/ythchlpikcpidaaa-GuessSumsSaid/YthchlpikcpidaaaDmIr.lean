/- The seat's functions, all parts. -/
import Derived.Test.YthchlpikcpidaaaDmTy
import Derived.Test.YthchlpikcpidaaaDmIr0
import Derived.Test.YthchlpikcpidaaaDmIr1
import Derived.Test.YthchlpikcpidaaaDmIr2
import Derived.Test.YthchlpikcpidaaaDmIr3
namespace Go.Proofs.Ythchlpikcpidaaa.Vs
set_option linter.unusedVariables false
set_option maxRecDepth 100000
end Go.Proofs.Ythchlpikcpidaaa.Vs
