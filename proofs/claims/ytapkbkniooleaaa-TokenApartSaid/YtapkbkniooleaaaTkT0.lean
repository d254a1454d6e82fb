/- numbers of Ytapkbkniooleaaa -/
import Derived.Test.YtapkbkniooleaaaTkO
import Derived.Test.YtapkbkniooleaaaTkQ
namespace Go.Proofs.Ytapkbkniooleaaa.Vs
set_option linter.unusedVariables false
set_option linter.unusedSimpArgs false
set_option maxRecDepth 100000
/-- What is longest, and of which kind. -/
def kindN (u n w : Nat) : Int := if max (max (max u n) w) 1 = u then 3 else if max (max (max u n) w) 1 = n then 1 else if max (max (max u n) w) 1 = w then 0 else 2
theorem best_nat (u1 u2 n w : Nat) : [(u1, (3 : Int)), (u2, 3), (n, 1), (w, 0), (1, 2)].foldl bestS (0, 2) = (max (max (max (max u1 u2) n) w) 1, kindN (max u1 u2) n w) := by
  have h1 : bestS (bestS (0, 2) (u1, (3 : Int))) (u2, 3) = if max u1 u2 = 0 then (0, 2) else (max u1 u2, 3) := by
    unfold bestS
    simp only []
    by_cases c1 : 0 < u1
    · rw [if_pos c1]
      simp only []
      have hne : ¬ max u1 u2 = 0 := by omega
      by_cases c2 : u1 < u2
      · rw [if_pos c2, if_neg hne, Nat.max_eq_right (by omega)]
      · rw [if_neg c2, if_neg hne, Nat.max_eq_left (by omega)]
    · rw [if_neg c1]
      simp only []
      have : u1 = 0 := by omega
      subst this
      rw [Nat.zero_max]
      by_cases c2 : 0 < u2
      · rw [if_pos c2, if_neg (by omega)]
      · rw [if_neg c2, if_pos (by omega)]
  simp only [List.foldl_cons, List.foldl_nil]
  rw [h1]
  generalize max u1 u2 = u
  unfold kindN bestS
  by_cases hu : u = 0
  · subst hu
    rw [if_pos rfl]
    simp only [Nat.zero_max]
    by_cases c1 : 0 < n
    · rw [if_pos c1]
      simp only []
      by_cases c2 : n < w
      · rw [if_pos c2]
        simp only []
        rw [if_neg (by omega), Nat.max_eq_right (show n ≤ w by omega), Nat.max_eq_left (show 1 ≤ w by omega), if_neg (by omega), if_neg (by omega), if_pos rfl]
      · rw [if_neg c2]
        simp only []
        rw [if_neg (by omega), Nat.max_eq_left (show w ≤ n by omega), Nat.max_eq_left (show 1 ≤ n by omega), if_neg (by omega), if_pos rfl]
    · rw [if_neg c1]
      simp only []
      have : n = 0 := by omega
      subst this
      simp only [Nat.zero_max]
      by_cases c2 : 0 < w
      · rw [if_pos c2]
        simp only []
        rw [if_neg (by omega), Nat.max_eq_left (show 1 ≤ w by omega), if_neg (by omega), if_neg (by omega), if_pos rfl]
      · rw [if_neg c2]
        simp only []
        have : w = 0 := by omega
        subst this
        decide
  · rw [if_neg hu]
    simp only []
    by_cases c1 : u < n
    · rw [if_pos c1]
      simp only []
      by_cases c2 : n < w
      · rw [if_pos c2]
        simp only []
        rw [if_neg (by omega), Nat.max_eq_right (show u ≤ n by omega), Nat.max_eq_right (show n ≤ w by omega), Nat.max_eq_left (show 1 ≤ w by omega), if_neg (by omega), if_neg (by omega), if_pos rfl]
      · rw [if_neg c2]
        simp only []
        rw [if_neg (by omega), Nat.max_eq_right (show u ≤ n by omega), Nat.max_eq_left (show w ≤ n by omega), Nat.max_eq_left (show 1 ≤ n by omega), if_neg (by omega), if_pos rfl]
    · rw [if_neg c1]
      simp only []
      by_cases c2 : u < w
      · rw [if_pos c2]
        simp only []
        rw [if_neg (by omega), Nat.max_eq_left (show n ≤ u by omega), Nat.max_eq_right (show u ≤ w by omega), Nat.max_eq_left (show 1 ≤ w by omega), if_neg (by omega), if_neg (by omega), if_pos rfl]
      · rw [if_neg c2]
        simp only []
        rw [if_neg (by omega), Nat.max_eq_left (show n ≤ u by omega), Nat.max_eq_left (show w ≤ u by omega), Nat.max_eq_left (show 1 ≤ u by omega), if_pos rfl]
theorem bestW_is (c : Cut) (t : ByteArray) : bestW c t = (max (max (max (max (unitW c.words t) (unitW c.short t)) (numW t)) (wordW t)) 1, kindN (max (unitW c.words t) (unitW c.short t)) (numW t) (wordW t)) := best_nat _ _ _ _
end Go.Proofs.Ytapkbkniooleaaa.Vs
