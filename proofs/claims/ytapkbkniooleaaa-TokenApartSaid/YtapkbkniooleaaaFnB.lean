/- What the functions on words, one against another, come to. -/
import Derived.Test.YtapkbkniooleaaaFnA
namespace Go.Proofs.Ytapkbkniooleaaa.Vs
set_option linter.unusedVariables false
set_option linter.unusedSimpArgs false
set_option maxRecDepth 20000
theorem ba_refl (a : ByteArray) : (a == a) = true := by
  cases a with
  | mk a => exact (beq_self_eq_true a : (a == a) = true)
end Go.Proofs.Ytapkbkniooleaaa.Vs
