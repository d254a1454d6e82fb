/- How much there is in a table and a word: some number. -/
import Derived.Test.YtapkbkniooleaaaDoorFnBx
namespace Go.Proofs.YtapkbkniooleaaaDoor.Vs
set_option linter.unusedVariables false
set_option linter.unusedSimpArgs false
set_option maxRecDepth 20000
end Go.Proofs.YtapkbkniooleaaaDoor.Vs
