/- What the functions on words, one against another, come to. -/
import Derived.Test.YthchlpikcpidaaaFnA
namespace Go.Proofs.Ythchlpikcpidaaa.Vs
set_option linter.unusedVariables false
set_option linter.unusedSimpArgs false
set_option maxRecDepth 20000
def eqW : Wd → Wd → Bool
  | [], [] => true
  | x :: a, y :: b => (x == y) && eqW a b
  | _, _ => false
def encLL (l : List Wd) : D := .sl .no l.length (l.map encSS)

theorem ba_refl (a : ByteArray) : (a == a) = true := by
  cases a with
  | mk a => exact (beq_self_eq_true a : (a == a) = true)
theorem eqW_iff : ∀ {a b : Wd}, eqW a b = true ↔ a = b
  | [], [] => by simp [eqW]
  | [], _ :: _ => by simp [eqW]
  | _ :: _, [] => by simp [eqW]
  | x :: a, y :: b => by
    simp only [eqW, Bool.and_eq_true, List.cons.injEq, eqW_iff (a := a) (b := b)]
    exact ⟨fun h => ⟨ba_eq h.1, h.2⟩, fun h => ⟨by rw [h.1]; exact ba_refl y, h.2⟩⟩

end Go.Proofs.Ythchlpikcpidaaa.Vs
