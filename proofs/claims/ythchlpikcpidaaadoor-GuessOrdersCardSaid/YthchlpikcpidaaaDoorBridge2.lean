/- Lists of words, read in memory. -/
import Derived.Test.YthchlpikcpidaaaDoorBridge
import Derived.Deep.Slices
namespace Go.Proofs.YthchlpikcpidaaaDoor.Vs
open Go.RowKit
set_option linter.unusedVariables false
set_option linter.unusedSimpArgs false
section
variable {H : Type} {enc : TypeId × Value → H} {P : Program} {w : World}
end
end Go.Proofs.YthchlpikcpidaaaDoor.Vs
