/- Small facts on words and rows of numbers. -/
import Derived.Test.YtldlcejlfaogbaaGreatDoorFnC
namespace Go.Proofs.YtldlcejlfaogbaaGreatDoor.Vs
set_option linter.unusedVariables false
set_option linter.unusedSimpArgs false
set_option maxRecDepth 20000
theorem encSS_drop (w : Wd) (n : Nat) (h : n ≤ w.length) : D.sl .no (w.length - n) (((w.map D.str).drop n).take (w.length - n)) = encSS (w.drop n) := by
  simp only [encSS, List.map_drop, List.length_drop]
  rw [List.take_of_length_le (by simp)]
theorem begW_le {w x : Wd} (h : begW w x = true) : x.length ≤ w.length := by
  rw [begW_take, Bool.and_eq_true] at h
  simpa using h.1

/-- What is written at a place, and how much is gone over. -/
theorem badW_len {w : Wd} (h : badW w = 0) : w.length ≤ 60 := by
  unfold badW at h
  split at h
  · cases h
  · rename_i hc
    simp at hc
    omega
def encI (l : List Int) : D := .sl .no l.length (l.map (.int .i64))

end Go.Proofs.YtldlcejlfaogbaaGreatDoor.Vs
