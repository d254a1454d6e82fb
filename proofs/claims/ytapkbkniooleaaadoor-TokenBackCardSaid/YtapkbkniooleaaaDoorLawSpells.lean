/- numbers of YtapkbkniooleaaaDoor -/
import Derived.Test.YtapkbkniooleaaaDoorSp1
import Derived.Test.YtapkbkniooleaaaDoorTkW1
namespace Go.Proofs.YtapkbkniooleaaaDoor.Vs
set_option linter.unusedVariables false
set_option linter.unusedSimpArgs false
set_option maxRecDepth 100000
def encSp (n : Int) : D := if n < 0 ∨ 999999 < n then .tup [.str ⟨#[]⟩, .int .i64 1] else .tup [.str (sixW n.toNat), .int .i64 0]
theorem encSp_1 {n : Int} (h : n < 0) : encSp n = .tup [.str ⟨#[]⟩, .int .i64 1] := by unfold encSp; rw [if_pos (Or.inl h)]
theorem encSp_2 {n : Int} (h : 999999 < n) : encSp n = .tup [.str ⟨#[]⟩, .int .i64 1] := by unfold encSp; rw [if_pos (Or.inr h)]
theorem encSp_3 {n : Int} (h : ¬ n < 0) (h2 : ¬ 999999 < n) : encSp n = .tup [.str (sixW n.toNat), .int .i64 0] := by unfold encSp; rw [if_neg (fun x => x.elim h h2)]
theorem Spell_c (n : Int) : Fn Zs 14 [.int .i64 n] (encSp n) := by
  refine fn_of (Z := Zs) ok14 fun σ hcl hbl => ?_
  simp -dsimp only [L14, ↓preB, postB, genB, ↓reduceIte, Nat.reduceEqDiff, Int.reduceToNat, Int.reduceLE, Int.reduceLT, Nat.reduceAdd, Nat.reduceLeDiff, intBin, strBin, unD, extractD, lit1, lit2, lit3, keptD, boxR, D.one, D.pub1, D.cells, splice, cutOwn]
  have e1 := encSp_1 (n := n)
  have e2 := encSp_2 (n := n)
  have e3 := encSp_3 (n := n)
  by_cases c1 : n < 0
  · simp -dsimp only [c1, gate, decide_true, decide_false, Bool.not_true, Bool.not_false, bTT, bTF, bFT, bFF, ↓preB, postB, genB, ↓reduceIte, Nat.reduceEqDiff, Int.reduceToNat, Int.reduceLE, Int.reduceLT, Nat.reduceAdd, Nat.reduceLeDiff, intBin, strBin, unD, extractD, lit1, lit2, lit3, keptD, boxR, D.one, D.pub1, D.cells, splice, cutOwn]
    exact Ret.is (e1 c1).symm
  by_cases c2 : 999999 < n
  · simp -dsimp only [c1, c2, gate, decide_true, decide_false, Bool.not_true, Bool.not_false, bTT, bTF, bFT, bFF, ↓preB, postB, genB, ↓reduceIte, Nat.reduceEqDiff, Int.reduceToNat, Int.reduceLE, Int.reduceLT, Nat.reduceAdd, Nat.reduceLeDiff, intBin, strBin, unD, extractD, lit1, lit2, lit3, keptD, boxR, D.one, D.pub1, D.cells, splice, cutOwn]
    exact Ret.is (e2 c2).symm
  have e := e3 c1 c2
  clear e1 e2 e3
  obtain ⟨m, rfl⟩ : ∃ m : Nat, n = (m : Int) := ⟨n.toNat, by omega⟩
  simp -dsimp only [c1, c2, gate, decide_true, decide_false, Bool.not_true, Bool.not_false, bTT, bTF, bFT, bFF, ↓preB, postB, genB, ↓reduceIte, Nat.reduceEqDiff, Int.reduceToNat, Int.reduceLE, Int.reduceLT, Nat.reduceAdd, Nat.reduceLeDiff, intBin, strBin, unD, extractD, lit1, lit2, lit3, keptD, boxR, D.one, D.pub1, D.cells, splice, cutOwn]
  refine Fn.use (spelt_6 m (by omega)) ?_
  simp -dsimp only [gate, decide_true, decide_false, Bool.not_true, Bool.not_false, bTT, bTF, bFT, bFF, ↓preB, postB, genB, ↓reduceIte, Nat.reduceEqDiff, Int.reduceToNat, Int.reduceLE, Int.reduceLT, Nat.reduceAdd, Nat.reduceLeDiff, intBin, strBin, unD, extractD, lit1, lit2, lit3, keptD, boxR, D.one, D.pub1, D.cells, splice, cutOwn]
  exact Ret.is e.symm
end Go.Proofs.YtapkbkniooleaaaDoor.Vs
