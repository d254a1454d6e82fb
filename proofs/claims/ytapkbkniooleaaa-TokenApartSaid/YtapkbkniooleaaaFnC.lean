/- What the functions on words that begin with others come to. -/
import Derived.Test.YtapkbkniooleaaaFnB
namespace Go.Proofs.Ytapkbkniooleaaa.Vs
set_option linter.unusedVariables false
set_option linter.unusedSimpArgs false
set_option maxRecDepth 20000
structure Sh where
  From : Wd
  To : Wd
end Go.Proofs.Ytapkbkniooleaaa.Vs
