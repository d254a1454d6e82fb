import Derived.Test.YtapkbkniooleaaaDoorBridge
import Derived.Deep.Slices
import Derived.ChangeArms
import Derived.DataReads
/- Lists of words, read in memory. -/
namespace Go.Proofs.YtapkbkniooleaaaDoor.Vs
open Go.RowKit
set_option linter.unusedVariables false
set_option linter.unusedSimpArgs false
section
variable {H : Type} {enc : TypeId × Value → H} {P : Program} {w : World}
end
end Go.Proofs.YtapkbkniooleaaaDoor.Vs

/- Texts and numbers, read in memory. -/
namespace Go.Proofs.YtapkbkniooleaaaDoor.Vs
open Go.RowKit
set_option linter.unusedVariables false
set_option linter.unusedSimpArgs false
section
variable {H : Type} {enc : TypeId × Value → H} {P : Program} {w : World}
theorem read_str' {t : TypeId} {fuel : Nat} {v : Value} {x : DataW H × List MemPlace} (ht : P.underlying t = some .string) (h : DataW.trod enc P w 0 (fun _ => true) true fuel t [v] = some x) : ∃ s : ByteArray, v = .string s ∧ V w (Lim gz) v (.str s) := by
  obtain ⟨s, h1, _, h2⟩ := DataW.trod_string ht h
  simp only [List.cons.injEq, and_true] at h1
  subst h1
  exact ⟨s, rfl, .str s (Nat.le_trans h2 maxLen_big)⟩
end
end Go.Proofs.YtapkbkniooleaaaDoor.Vs
