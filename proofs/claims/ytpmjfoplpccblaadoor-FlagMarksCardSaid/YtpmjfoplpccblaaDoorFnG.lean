/- The shifted word and whether a word is clean, by the program. -/
import Derived.Test.YtpmjfoplpccblaaDoorFnF
namespace Go.Proofs.YtpmjfoplpccblaaDoor.Vs
set_option linter.unusedVariables false
set_option linter.unusedSimpArgs false
set_option maxRecDepth 20000
end Go.Proofs.YtpmjfoplpccblaaDoor.Vs
