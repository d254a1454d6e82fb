/- numbers of YtldlcejlfaogbaaGreatDoor -/
import Derived.Test.YtldlcejlfaogbaaGreatDoorJoF5
import Derived.Test.YtldlcejlfaogbaaGreatDoorDmKnown
import Derived.Test.YtldlcejlfaogbaaGreatDoorTxL
namespace Go.Proofs.YtldlcejlfaogbaaGreatDoor.Vs
set_option linter.unusedVariables false
set_option linter.unusedSimpArgs false
set_option maxRecDepth 20000
theorem texts_of (t : List Sh) : Fn Zs 5 [encT t] (.bool true) := by
  refine fn_of (Z := Zs) ok5 fun σ hcl hbl => ?_
  simp -dsimp only [L5, ↓preB, postB, genB, ↓reduceIte, Nat.reduceEqDiff, Int.reduceToNat, Int.reduceLE, Int.reduceLT, Nat.reduceAdd, Nat.reduceLeDiff, intBin, strBin, unD, extractD, lit1, lit2, lit3, keptD, boxR, D.one, D.pub1, D.cells, splice, cutOwn]
  refine Fn.use (over_c t) ?_
  cases c1 : decide (100000 < overF t t.length)
  case true =>
    simp -dsimp only [c1, gate, show (true == false) = false from rfl, ↓preB, postB, genB, ↓reduceIte, Nat.reduceEqDiff, Int.reduceToNat, Int.reduceLE, Int.reduceLT, Nat.reduceAdd, Nat.reduceLeDiff, intBin, strBin, unD, extractD, lit1, lit2, lit3, keptD, boxR, D.one, D.pub1, D.cells, splice, cutOwn]
    refine Fn.use known_c ?_
    simp -dsimp only [↓preB, postB, genB, ↓reduceIte, Nat.reduceEqDiff, Int.reduceToNat, Int.reduceLE, Int.reduceLT, Nat.reduceAdd, Nat.reduceLeDiff, intBin, strBin, unD, extractD, lit1, lit2, lit3, keptD, boxR, D.one, D.pub1, D.cells, splice, cutOwn]
    exact Ret.is rfl
  simp -dsimp only [c1, gate, show (false == false) = true from rfl, ↓preB, postB, genB, ↓reduceIte, Nat.reduceEqDiff, Int.reduceToNat, Int.reduceLE, Int.reduceLT, Nat.reduceAdd, Nat.reduceLeDiff, intBin, strBin, unD, extractD, lit1, lit2, lit3, keptD, boxR, D.one, D.pub1, D.cells, splice, cutOwn]
  refine Fn.use (Text_c t) ?_
  simp -dsimp only [↓preB, postB, genB, ↓reduceIte, Nat.reduceEqDiff, Int.reduceToNat, Int.reduceLE, Int.reduceLT, Nat.reduceAdd, Nat.reduceLeDiff, intBin, strBin, unD, extractD, lit1, lit2, lit3, keptD, boxR, D.one, D.pub1, D.cells, splice, cutOwn]
  refine Fn.use (refText_c t) ?_
  have e0 : ((textR t).1 == (textR t).1) = true := ba_refl _
  have e1 : ((textR t).2 != (textR t).2) = false := by simp
  have e2 : ((0 : Int) == 0) = true := rfl
  have e3 : ((0 : Int) != 0) = false := rfl
  cases c2 : ((textR t).2 == 0)
  · simp -dsimp only [e0, e1, c2, gate, Bool.not_true, show (true == false) = false from rfl, show (false == false) = true from rfl, ↓preB, postB, genB, ↓reduceIte, Nat.reduceEqDiff, Int.reduceToNat, Int.reduceLE, Int.reduceLT, Nat.reduceAdd, Nat.reduceLeDiff, intBin, strBin, unD, extractD, lit1, lit2, lit3, keptD, boxR, D.one, D.pub1, D.cells, splice, cutOwn]
    refine Fn.use known_c ?_
    simp -dsimp only [↓preB, postB, genB, ↓reduceIte, Nat.reduceEqDiff, Int.reduceToNat, Int.reduceLE, Int.reduceLT, Nat.reduceAdd, Nat.reduceLeDiff, intBin, strBin, unD, extractD, lit1, lit2, lit3, keptD, boxR, D.one, D.pub1, D.cells, splice, cutOwn]
    exact Ret.is rfl
  · have h2 : (textR t).2 = 0 := by simpa using c2
    have h3 : badT t = 0 ∧ t.any brkR = false ∧ t.any longR = false ∧ (textL t).length ≤ 6000 ∧ (textR t).1 = toB (textL t) := by
      unfold textR at h2 ⊢
      split at h2
      · rename_i h; exact absurd h2 h
      · rename_i h
        split at h2
        · cases h2
        · rename_i h'
          split at h2
          · cases h2
          · rename_i h''
            simp only [Bool.or_eq_true, not_or, decide_eq_true_eq, Bool.not_eq_true] at h''
            rw [if_neg h, if_neg h', if_neg (by simp only [Bool.or_eq_true, not_or, decide_eq_true_eq, Bool.not_eq_true]; exact h'')]
            exact ⟨by simpa using h, by simpa using h', h''.1, by omega, rfl⟩
    obtain ⟨k1, k2, k3, k4, k5⟩ := h3
    have hrd := read_text k1 k2 k3 k4
    simp -dsimp only [e0, e1, c2, gate, Bool.not_true, show (true == false) = false from rfl, show (false == false) = true from rfl, ↓preB, postB, genB, ↓reduceIte, Nat.reduceEqDiff, Int.reduceToNat, Int.reduceLE, Int.reduceLT, Nat.reduceAdd, Nat.reduceLeDiff, intBin, strBin, unD, extractD, lit1, lit2, lit3, keptD, boxR, D.one, D.pub1, D.cells, splice, cutOwn]
    rw [k5]
    refine Fn.use (Read_c (textL t) (by omega)) ?_
    rw [hrd]
    simp -dsimp only [encRd, e3, gate, show (false == false) = true from rfl, ↓preB, postB, genB, ↓reduceIte, Nat.reduceEqDiff, Int.reduceToNat, Int.reduceLE, Int.reduceLT, Nat.reduceAdd, Nat.reduceLeDiff, intBin, strBin, unD, extractD, lit1, lit2, lit3, keptD, boxR, D.one, D.pub1, D.cells, splice, cutOwn]
    refine Fn.use (sameT_c t) ?_
    simp -dsimp only [encRd, e3, gate, Bool.not_true, show (false == false) = true from rfl, ↓preB, postB, genB, ↓reduceIte, Nat.reduceEqDiff, Int.reduceToNat, Int.reduceLE, Int.reduceLT, Nat.reduceAdd, Nat.reduceLeDiff, intBin, strBin, unD, extractD, lit1, lit2, lit3, keptD, boxR, D.one, D.pub1, D.cells, splice, cutOwn]
    refine Fn.use known_c ?_
    simp -dsimp only [↓preB, postB, genB, ↓reduceIte, Nat.reduceEqDiff, Int.reduceToNat, Int.reduceLE, Int.reduceLT, Nat.reduceAdd, Nat.reduceLeDiff, intBin, strBin, unD, extractD, lit1, lit2, lit3, keptD, boxR, D.one, D.pub1, D.cells, splice, cutOwn]
    exact Ret.is rfl
end Go.Proofs.YtldlcejlfaogbaaGreatDoor.Vs
