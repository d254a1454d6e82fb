/- numbers of YtldlcejlfaogbaaDoor -/
/- The law ScriptReads. -/
import Derived.Test.YtldlcejlfaogbaaDoorJoF5
import Derived.Test.YtldlcejlfaogbaaDoorDmKnown
import Derived.Test.YtldlcejlfaogbaaDoorRdF4
namespace Go.Proofs.YtldlcejlfaogbaaDoor.Vs
set_option linter.unusedVariables false
set_option linter.unusedSimpArgs false
set_option maxRecDepth 20000

theorem reads_of (s : ByteArray) : Fn Zs 5 [.str s] (.bool true) := by
  obtain ⟨l, rfl⟩ : ∃ l, s = toB l := ⟨_, (toB_of s).symm⟩
  refine fn_of (Z := Zs) ok5 fun σ hcl hbl => ?_
  simp -dsimp only [L5, ↓preB, postB, genB, ↓reduceIte, Nat.reduceEqDiff, Int.reduceToNat, Int.reduceLE, Int.reduceLT, Nat.reduceAdd, Nat.reduceLeDiff, intBin, strBin, unD, extractD, lit1, lit2, lit3, keptD, boxR, D.one, D.pub1, D.cells, splice, cutOwn]
  have hsz := toB_size l
  by_cases hb : 100000 < l.length
  · have c1 : (100000 : Int) < l.length := by omega
    simp -dsimp only [hsz, c1, ↓preB, postB, genB, ↓reduceIte, Nat.reduceEqDiff, Int.reduceToNat, Int.reduceLE, Int.reduceLT, Nat.reduceAdd, Nat.reduceLeDiff, intBin, strBin, unD, extractD, lit1, lit2, lit3, keptD, boxR, D.one, D.pub1, D.cells, splice, cutOwn]
    intro _
    refine Fn.use known_c ?_
    simp -dsimp only [↓preB, postB, genB, ↓reduceIte, Nat.reduceEqDiff, Int.reduceToNat, Int.reduceLE, Int.reduceLT, Nat.reduceAdd, Nat.reduceLeDiff, intBin, strBin, unD, extractD, lit1, lit2, lit3, keptD, boxR, D.one, D.pub1, D.cells, splice, cutOwn]
    exact Ret.is rfl
  have c1 : ¬ (100000 : Int) < l.length := by omega
  simp -dsimp only [hsz, c1, ↓preB, postB, genB, ↓reduceIte, Nat.reduceEqDiff, Int.reduceToNat, Int.reduceLE, Int.reduceLT, Nat.reduceAdd, Nat.reduceLeDiff, intBin, strBin, unD, extractD, lit1, lit2, lit3, keptD, boxR, D.one, D.pub1, D.cells, splice, cutOwn]
  intro _
  refine Fn.use (Read_c l (by omega)) ?_
  simp -dsimp only [encRd, ↓preB, postB, genB, ↓reduceIte, Nat.reduceEqDiff, Int.reduceToNat, Int.reduceLE, Int.reduceLT, Nat.reduceAdd, Nat.reduceLeDiff, intBin, strBin, unD, extractD, lit1, lit2, lit3, keptD, boxR, D.one, D.pub1, D.cells, splice, cutOwn]
  refine Fn.use (refReadT_c l (by omega)) ?_
  simp -dsimp only [encRd, ↓preB, postB, genB, ↓reduceIte, Nat.reduceEqDiff, Int.reduceToNat, Int.reduceLE, Int.reduceLT, Nat.reduceAdd, Nat.reduceLeDiff, intBin, strBin, unD, extractD, lit1, lit2, lit3, keptD, boxR, D.one, D.pub1, D.cells, splice, cutOwn]
  refine Fn.use (sameT_c _) ?_
  have e1 : ∀ x : Int, (x == x) = true := fun x => by simp
  simp -dsimp only [e1, gate, show (true == true) = true from rfl, ↓preB, postB, genB, ↓reduceIte, Nat.reduceEqDiff, Int.reduceToNat, Int.reduceLE, Int.reduceLT, Nat.reduceAdd, Nat.reduceLeDiff, intBin, strBin, unD, extractD, lit1, lit2, lit3, keptD, boxR, D.one, D.pub1, D.cells, splice, cutOwn]
  refine Fn.use known_c ?_
  simp -dsimp only [↓preB, postB, genB, ↓reduceIte, Nat.reduceEqDiff, Int.reduceToNat, Int.reduceLE, Int.reduceLT, Nat.reduceAdd, Nat.reduceLeDiff, intBin, strBin, unD, extractD, lit1, lit2, lit3, keptD, boxR, D.one, D.pub1, D.cells, splice, cutOwn]
  exact Ret.is rfl
end Go.Proofs.YtldlcejlfaogbaaDoor.Vs
