/- Lists of words, read in memory. -/
import Derived.Test.YthchlpikcpidaaaBridge
import Derived.Deep.Slices
namespace Go.Proofs.Ythchlpikcpidaaa.Vs
open Go.RowKit
set_option linter.unusedVariables false
set_option linter.unusedSimpArgs false
section
variable {H : Type} {enc : TypeId × Value → H} {P : Program} {w : World}
end
end Go.Proofs.Ythchlpikcpidaaa.Vs
