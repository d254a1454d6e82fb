import Derived.Test.YtapkbkniooleaaaDoorFnBx
/- The row that fits, and what a step is. -/
namespace Go.Proofs.YtapkbkniooleaaaDoor.Vs
set_option linter.unusedVariables false
set_option linter.unusedSimpArgs false
set_option maxRecDepth 20000
end Go.Proofs.YtapkbkniooleaaaDoor.Vs

/- Which tables there are. -/
namespace Go.Proofs.YtapkbkniooleaaaDoor.Vs
set_option linter.unusedVariables false
set_option linter.unusedSimpArgs false
set_option maxRecDepth 20000
end Go.Proofs.YtapkbkniooleaaaDoor.Vs

/- Which tables there are, by the program. -/
namespace Go.Proofs.YtapkbkniooleaaaDoor.Vs
set_option linter.unusedVariables false
set_option linter.unusedSimpArgs false
set_option maxRecDepth 20000
end Go.Proofs.YtapkbkniooleaaaDoor.Vs

/- The shifted word and whether a word is clean, by the program. -/
namespace Go.Proofs.YtapkbkniooleaaaDoor.Vs
set_option linter.unusedVariables false
set_option linter.unusedSimpArgs false
set_option maxRecDepth 20000
end Go.Proofs.YtapkbkniooleaaaDoor.Vs
