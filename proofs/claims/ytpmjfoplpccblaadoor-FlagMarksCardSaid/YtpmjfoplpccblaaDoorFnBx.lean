/- Small facts on words and rows of numbers. -/
import Derived.Test.YtpmjfoplpccblaaDoorFnC
namespace Go.Proofs.YtpmjfoplpccblaaDoor.Vs
set_option linter.unusedVariables false
set_option linter.unusedSimpArgs false
set_option maxRecDepth 20000
end Go.Proofs.YtpmjfoplpccblaaDoor.Vs
