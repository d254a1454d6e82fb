/- numbers of YtldlcejlfaogbaaDoor -/
import Derived.Lib.Split
import Derived.Test.YtapkbkniooleaaaDoorOrdW
import Derived.Test.YtapkbkniooleaaaDoorFnI
import Derived.Test.YtapkbkniooleaaaDoorFnD1
namespace Go.Proofs.YtapkbkniooleaaaDoor.Vs
set_option linter.unusedVariables false
set_option linter.unusedSimpArgs false
set_option maxRecDepth 20000
def toB (l : List UInt8) : ByteArray := ⟨l.toArray⟩
theorem toB_list (l : List UInt8) : (toB l).data.toList = l := by simp [toB]
theorem toB_size (l : List UInt8) : (toB l).size = l.length := by simp [toB, ByteArray.size]
end Go.Proofs.YtapkbkniooleaaaDoor.Vs
