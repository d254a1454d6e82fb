/- Lists of words, read in memory. -/
import Derived.Test.YthchlpikcpidaaaBridge
import Derived.Deep.Slices
namespace Go.Proofs.Ythchlpikcpidaaa.Vs
open Go.RowKit
set_option linter.unusedVariables false
set_option linter.unusedSimpArgs false
section
variable {H : Type} {enc : TypeId × Value → H} {P : Program} {w : World}
/-- A value that reads as a slice of slices of texts stands for a list of words. -/
theorem read_words {t e s : TypeId} {fuel : Nat} {v : Value} {x : DataW H × List MemPlace} (ht : P.underlying t = some (.slice e)) (he : P.underlying e = some (.slice s)) (us : P.underlying s = some .string)
    (ce : P.cellsOf e = 1) (cs : P.cellsOf s = 1) (h : DataW.trod enc P w 0 (fun _ => true) true fuel t [v] = some x) : ∃ l : List Wd, V w (Lim gz) v (encLL l) := by
  rcases Go.Deep.open_slice1 ht ce h with ⟨h1, _⟩ | ⟨a, len, cap, m, n, V0, D0, P0, h1, _, hl, hm, hmm, _, hx⟩
  · simp only [List.cons.injEq, and_true] at h1
    subst h1
    exact ⟨[], .sl .no 0 0 none [] (fun _ => undef) (Nat.le_refl _) (Nat.zero_le _) (fun _ => rfl) (fun i hi => by cases hi) (fun i hi => by cases hi) (fun i hi => by cases hi)⟩
  · simp only [List.cons.injEq, and_true] at h1
    subst h1
    simp only [if_true] at hmm
    have r0 : ∀ i, i < len → ∃ l : Wd, V w (Lim gz) (V0 i) (encSS l) := fun i hi => read_strs he us cs (hx i (by omega)).2
    obtain ⟨ls, hlen, g0⟩ := lists_of r0
    refine ⟨ls, ?_⟩
    rw [← hlen] at hl ⊢
    refine .sl .no _ cap (some a) (ls.map encSS) V0 hl (Nat.le_trans hm maxLen_big) (fun hA => by cases hA) (fun i hi => ?_) (fun i hi => ?_) (fun i hi => ?_)
    · have hi' : i < ls.length := by simpa using hi
      exact ((g0 i hi').one rfl).1
    · have hi' : i < ls.length := by simpa using hi
      exact ⟨a, rfl, (hx i (by omega)).1, Lim_nil _ _⟩
    · have hi' : i < ls.length := by simpa using hi
      simpa using g0 i hi'
end
end Go.Proofs.Ythchlpikcpidaaa.Vs
