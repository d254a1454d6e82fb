/- numbers of YtldlcejlfaogbaaDoor -/
import Derived.WalkKit
import Derived.Test.YtldlcejlfaogbaaGreatDoorJoF4
namespace Go.Proofs.YtldlcejlfaogbaaGreatDoor.Vs
open Go.RowKit
set_option linter.unusedVariables false
set_option linter.unusedSimpArgs false
set_option maxRecDepth 100000
end Go.Proofs.YtldlcejlfaogbaaGreatDoor.Vs
