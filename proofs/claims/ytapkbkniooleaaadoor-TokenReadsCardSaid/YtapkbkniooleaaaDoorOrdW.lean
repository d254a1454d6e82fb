/- The order of words is a total order. -/
import Derived.Sort.Walk0
import Derived.Sort.Statements
import Derived.Test.YtapkbkniooleaaaDoorFnC
namespace Go.Proofs.YtapkbkniooleaaaDoor.Vs
open Go.Sort
set_option linter.unusedVariables false
set_option linter.unusedSimpArgs false
theorem ba_ext' {a b : ByteArray} (h : a.data.toList = b.data.toList) : a = b := by cases a; cases b; congr 1; exact Array.toList_inj.1 h
end Go.Proofs.YtapkbkniooleaaaDoor.Vs
