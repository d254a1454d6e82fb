/- Words as keys. -/
import Derived.Test.YtldlcejlfaogbaaGreatDoorShJoin
namespace Go.Proofs.YtldlcejlfaogbaaGreatDoor.Vs
set_option linter.unusedVariables false
set_option linter.unusedSimpArgs false
set_option maxRecDepth 20000
def sp : ByteArray := ⟨#[32]⟩
def goodS (s : ByteArray) : Prop := s.data.toList ≠ [] ∧ ∀ b ∈ s.data.toList, b ≠ 32
def goodW (w : Wd) : Prop := w.length ≤ 60 ∧ (∀ s ∈ w, s.size ≤ 16) ∧ ∀ s ∈ w, goodS s
theorem goodW.drop {w : Wd} (h : goodW w) (n : Nat) : goodW (w.drop n) := ⟨by rw [List.length_drop]; have := h.1; omega, fun s hs => h.2.1 s (List.mem_of_mem_drop hs), fun s hs => h.2.2 s (List.mem_of_mem_drop hs)⟩
theorem badW_good {w : Wd} (h : badW w = 0) : goodW w := by
  have h60 := badW_len h
  unfold badW at h
  split at h
  · cases h
  · rename_i h1
    split at h
    · cases h
    · rename_i h2
      simp only [Bool.or_eq_true, decide_eq_true_eq, not_or, Bool.not_eq_true] at h1
      have a1 := List.any_eq_false.1 h1.2
      have a2 : ∀ s ∈ w, bytesOK s = true ∧ (s == ⟨#[]⟩) = false := by simpa using h2
      refine ⟨h60, fun s hs => ?_, fun s hs => ?_⟩
      · have := a1 s hs; simp only [decide_eq_true_eq] at this; omega
      · obtain ⟨h3, h4⟩ := a2 s hs
        constructor
        · intro he
          have : s = ⟨#[]⟩ := by
            cases s with | mk d => congr 1; exact Array.toList_inj.1 he
          rw [this] at h4
          revert h4; decide
        · intro b hb e
          subst e
          obtain ⟨i, hi, hbi⟩ := List.getElem_of_mem hb
          have h5 := List.all_eq_true.1 h3 i (List.mem_range.2 (by simpa using hi))
          have : byteAt s i = 32 := by
            unfold byteAt
            rw [List.getD_eq_getElem?_getD, List.getElem?_eq_getElem hi, hbi]
            rfl
          rw [this] at h5
          revert h5; decide
end Go.Proofs.YtldlcejlfaogbaaGreatDoor.Vs
