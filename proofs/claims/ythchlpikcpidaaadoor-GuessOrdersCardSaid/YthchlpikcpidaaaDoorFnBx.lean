/- Small facts on words and rows of numbers. -/
import Derived.Test.YthchlpikcpidaaaDoorFnC
namespace Go.Proofs.YthchlpikcpidaaaDoor.Vs
set_option linter.unusedVariables false
set_option linter.unusedSimpArgs false
set_option maxRecDepth 20000
theorem encSS_drop (w : Wd) (n : Nat) (h : n ≤ w.length) : D.sl .no (w.length - n) (((w.map D.str).drop n).take (w.length - n)) = encSS (w.drop n) := by
  simp only [encSS, List.map_drop, List.length_drop]
  rw [List.take_of_length_le (by simp)]
/-- What is written at a place, and how much is gone over. -/
theorem badW_len {w : Wd} (h : badW w = 0) : w.length ≤ 60 := by
  unfold badW at h
  split at h
  · cases h
  · rename_i hc
    simp at hc
    omega
def badLL (l : List Wd) : Int := ((l.map badW).find? (fun e => e != 0)).getD 0
theorem badLL_cons (w : Wd) (l : List Wd) : badLL (w :: l) = if badW w != 0 then badW w else badLL l := by
  simp only [badLL, List.map_cons, List.find?_cons]
  cases h : (badW w != 0) <;> simp
theorem badLL_zero : ∀ {l : List Wd}, badLL l = 0 → ∀ w ∈ l, badW w = 0
  | [], _, w, h => by cases h
  | v :: l, h, w, hw => by
    rw [badLL_cons] at h
    cases hb : (badW v != 0) with
    | true => rw [hb] at h; simp only [if_true] at h; rw [h] at hb; simp at hb
    | false =>
      rw [hb] at h
      simp only [Bool.false_eq_true, if_false] at h
      rcases List.mem_cons.1 hw with rfl | hw
      · simpa using hb
      · exact badLL_zero h w hw

end Go.Proofs.YthchlpikcpidaaaDoor.Vs
