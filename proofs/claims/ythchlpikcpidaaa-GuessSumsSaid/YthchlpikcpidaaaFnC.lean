/- What the functions on words that begin with others come to. -/
import Derived.Test.YthchlpikcpidaaaFnB
namespace Go.Proofs.Ythchlpikcpidaaa.Vs
set_option linter.unusedVariables false
set_option linter.unusedSimpArgs false
set_option maxRecDepth 20000
theorem bl_irrefl : ∀ l : List UInt8, Op.bytesLess l l = false
  | [] => rfl
  | x :: l => by
    have := bl_irrefl l
    simp [Op.bytesLess, this]
theorem strLt_irrefl (s : ByteArray) : strLt s s = false := bl_irrefl _

structure Sh where
  From : Wd
  To : Wd
end Go.Proofs.Ythchlpikcpidaaa.Vs
