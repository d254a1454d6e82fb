/- Which tables there are. -/
import Derived.Test.YtpmjfoplpccblaaDoorFnD
namespace Go.Proofs.YtpmjfoplpccblaaDoor.Vs
set_option linter.unusedVariables false
set_option linter.unusedSimpArgs false
set_option maxRecDepth 20000
end Go.Proofs.YtpmjfoplpccblaaDoor.Vs
