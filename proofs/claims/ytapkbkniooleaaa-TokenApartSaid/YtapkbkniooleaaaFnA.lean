/- What the small functions on symbols and words come to. -/
import Derived.Test.YtapkbkniooleaaaDmIr
import Derived.Test.YtapkbkniooleaaaDmGen
namespace Go.Proofs.Ytapkbkniooleaaa.Vs
set_option linter.unusedVariables false
set_option linter.unusedSimpArgs false
set_option maxRecDepth 20000
abbrev Wd := List ByteArray
def encSS (w : Wd) : D := .sl .no w.length (w.map .str)
def idxOf {α : Type} (p : α → Bool) (w : List α) : Int := match w.findIdx? p with | some i => i | none => -1
theorem ba_eq {a b : ByteArray} (h : (a == b) = true) : a = b := by
  cases a with
  | mk a => cases b with
    | mk b =>
      have : (a == b) = true := h
      rw [eq_of_beq this]
end Go.Proofs.Ytapkbkniooleaaa.Vs
