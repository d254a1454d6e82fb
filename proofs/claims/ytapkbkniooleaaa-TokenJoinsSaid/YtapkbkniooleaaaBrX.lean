import Derived.Test.YtapkbkniooleaaaBridge
import Derived.Deep.Slices
import Derived.ChangeArms
import Derived.DataReads
/- Lists of words, read in memory. -/
namespace Go.Proofs.Ytapkbkniooleaaa.Vs
open Go.RowKit
set_option linter.unusedVariables false
set_option linter.unusedSimpArgs false
section
variable {H : Type} {enc : TypeId × Value → H} {P : Program} {w : World}
end
end Go.Proofs.Ytapkbkniooleaaa.Vs

/- Texts and numbers, read in memory. -/
namespace Go.Proofs.Ytapkbkniooleaaa.Vs
open Go.RowKit
set_option linter.unusedVariables false
set_option linter.unusedSimpArgs false
section
variable {H : Type} {enc : TypeId × Value → H} {P : Program} {w : World}
theorem read_str' {t : TypeId} {fuel : Nat} {v : Value} {x : DataW H × List MemPlace} (ht : P.underlying t = some .string) (h : DataW.trod enc P w 0 (fun _ => true) true fuel t [v] = some x) : ∃ s : ByteArray, v = .string s ∧ V w (Lim gz) v (.str s) := by
  obtain ⟨s, h1, _, h2⟩ := DataW.trod_string ht h
  simp only [List.cons.injEq, and_true] at h1
  subst h1
  exact ⟨s, rfl, .str s (Nat.le_trans h2 maxLen_big)⟩
theorem read_int' {t : TypeId} {k : IntKind} {fuel : Nat} {v : Value} {x : DataW H × List MemPlace} (ht : P.underlying t = some (.int k)) (h : DataW.trod enc P w 0 (fun _ => true) true fuel t [v] = some x) : ∃ n : Int, v = .int k n ∧ V w (Lim gz) v (.int k n) := by
  obtain ⟨n, h1, _, h2⟩ := DataW.trod_int ht h
  simp only [List.cons.injEq, and_true] at h1
  subst h1
  exact ⟨n, rfl, .int k n⟩
end
end Go.Proofs.Ytapkbkniooleaaa.Vs

/- Texts of a list, read in memory, with their sizes. -/
namespace Go.Proofs.Ytapkbkniooleaaa.Vs
open Go.RowKit
set_option linter.unusedVariables false
set_option linter.unusedSimpArgs false
section
variable {H : Type} {enc : TypeId × Value → H} {P : Program} {w : World}
end
end Go.Proofs.Ytapkbkniooleaaa.Vs
