/- What the functions on words that begin with others come to. -/
import Derived.Test.YthchlpikcpidaaaDoorFnB
namespace Go.Proofs.YthchlpikcpidaaaDoor.Vs
set_option linter.unusedVariables false
set_option linter.unusedSimpArgs false
set_option maxRecDepth 20000
theorem bl_irrefl : ∀ l : List UInt8, Op.bytesLess l l = false
  | [] => rfl
  | x :: l => by
    have := bl_irrefl l
    simp [Op.bytesLess, this]
theorem strLt_irrefl (s : ByteArray) : strLt s s = false := bl_irrefl _

theorem ordW_eqW : ∀ (a b : Wd), (ordW a b == 0) = eqW a b
  | [], [] => rfl
  | [], _ :: _ => rfl
  | _ :: _, [] => rfl
  | x :: a, y :: b => by
    have ih := ordW_eqW a b
    simp only [ordW, eqW]
    cases c2 : (x == y)
    · cases c1 : strLt x y <;> simp
    · have := ba_eq c2
      subst this
      simp [strLt_irrefl, ih]

theorem Same_c (a b : Wd) : Fn Zs 17 [encSS a, encSS b] (.bool (eqW a b)) := by
  refine fn_of (Z := Zs) ok17 fun σ hcl hbl => ?_
  simp -dsimp only [L17, ↓preB, postB, genB, ↓reduceIte, Nat.reduceEqDiff, Int.reduceToNat, Int.reduceLE, Int.reduceLT, Nat.reduceAdd, Nat.reduceLeDiff, intBin, strBin, unD, extractD, lit1, lit2, lit3, keptD, boxR, D.one, D.pub1, D.cells, splice, cutOwn]
  refine Fn.use (Order_c a b) ?_
  simp -dsimp only [↓preB, postB, genB, ↓reduceIte, Nat.reduceEqDiff, Int.reduceToNat, Int.reduceLE, Int.reduceLT, Nat.reduceAdd, Nat.reduceLeDiff, intBin, strBin, unD, extractD, lit1, lit2, lit3, keptD, boxR, D.one, D.pub1, D.cells, splice, cutOwn]
  exact Ret.is (by rw [← ordW_eqW])

structure Sh where
  From : Wd
  To : Wd
end Go.Proofs.YthchlpikcpidaaaDoor.Vs
