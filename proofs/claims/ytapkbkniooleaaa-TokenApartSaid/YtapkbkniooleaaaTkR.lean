/- numbers of Ytapkbkniooleaaa -/
import Derived.Test.YtapkbkniooleaaaTkQ
import Derived.Test.YtapkbkniooleaaaTkP
import Derived.Test.YtapkbkniooleaaaTkO
namespace Go.Proofs.Ytapkbkniooleaaa.Vs
set_option linter.unusedVariables false
set_option linter.unusedSimpArgs false
set_option maxRecDepth 100000
def tb (l : List UInt8) : ByteArray := ⟨l.toArray⟩
theorem tb_of (s : ByteArray) : s = tb s.data.toList := by cases s; simp [tb]
theorem tb_ext (l : List UInt8) (a b : Nat) : (tb l).extract a b = tb ((l.take b).drop a) := by
  rw [tb_of ((tb l).extract a b)]
  congr 1
  simp [tb, ByteArray.data_extract, List.extract_eq_take_drop, List.drop_take]
end Go.Proofs.Ytapkbkniooleaaa.Vs
