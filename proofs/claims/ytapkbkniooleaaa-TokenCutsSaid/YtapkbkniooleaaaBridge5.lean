/- Texts of a list, read in memory, with their sizes. -/
import Derived.Test.YtapkbkniooleaaaBridge
namespace Go.Proofs.Ytapkbkniooleaaa.Vs
open Go.RowKit
set_option linter.unusedVariables false
set_option linter.unusedSimpArgs false
section
variable {H : Type} {enc : TypeId × Value → H} {P : Program} {w : World}
theorem weights_strs {e : TypeId} : ∀ {l : List ByteArray} {s : ByteArray}, s ∈ l → s.data.toList.length ∈ DataW.weightsAll (H := H) P e (Go.ChangeShapes.strs l)
  | [], _, h => by cases h
  | a :: l, s, h => by
    show _ ∈ DataW.weightsAll P e (DataW.lit (.string a.data.toList) :: Go.ChangeShapes.strs l)
    rw [DataW.weightsAll, DataW.weights]
    rcases List.mem_cons.1 h with rfl | h
    · exact List.mem_append_left _ (by simp)
    · exact List.mem_append_right _ (weights_strs h)
theorem read_strsW {t e : TypeId} {fuel : Nat} {v : Value} {x : DataW H × List MemPlace} (ht : P.underlying t = some (.slice e)) (he : P.underlying e = some .string) (hc : P.cellsOf e = 1)
    (h : DataW.trod enc P w 0 (fun _ => true) true fuel t [v] = some x) (hw : ∀ n ∈ x.1.weights P t, n ≤ reachBytes) : ∃ l : Wd, V w (Lim gz) v (encSS l) ∧ ∀ s ∈ l, s.size ≤ 140737488351232 := by
  rcases Go.ChangeShapes.open_strings ht he hc h with ⟨h1, _⟩ | ⟨a, len, cap, ss, h1, _, hl, hm, hlen, hx, hcell, hs⟩
  · simp only [List.cons.injEq, and_true] at h1
    subst h1
    exact ⟨[], V_strs rfl (.inl ⟨rfl, rfl⟩) (Nat.le_refl _) (Nat.zero_le _) (fun s hs => by cases hs), fun s hs => by cases hs⟩
  · simp only [List.cons.injEq, and_true] at h1
    subst h1
    simp only [if_true] at hlen
    refine ⟨ss.take len, V_strs (by simp; omega) (.inr ⟨a, rfl, fun i hi => ?_⟩) hl (Nat.le_trans hm maxLen_big) (fun s hs' => Nat.le_trans (hs s (List.mem_of_mem_take hs')) maxLen_big), fun s hs' => ?_⟩
    · rw [hcell i (by omega)]
      congr 2
      simp [List.getD_eq_getElem?_getD, List.getElem?_take, hi]
    · have hin : s.data.toList.length ∈ x.1.weights P t := by
        rw [hx]
        show _ ∈ DataW.weights P t (.slice _ _)
        rw [DataW.weights, ht]
        exact List.mem_cons_of_mem _ (List.mem_append_left _ (weights_strs hs'))
      have := hw _ hin
      have e : s.data.toList.length = s.size := by simp
      rw [e] at this
      exact this
end
end Go.Proofs.Ytapkbkniooleaaa.Vs
