/- numbers of YtpmjfoplpccblaaDoor -/
import Derived.Test.YtpmjfoplpccblaaDoorFmE
import Derived.Test.YtpmjfoplpccblaaDoorFmK
import Derived.Test.YtpmjfoplpccblaaDoorFnC
namespace Go.Proofs.YtpmjfoplpccblaaDoor.Vs
set_option linter.unusedVariables false
set_option linter.unusedSimpArgs false
set_option maxRecDepth 20000
theorem marks_of (w : Wd) (hs : ∀ s ∈ w, s.size ≤ 140737488351232) : Fn Zs 3 [encSS w] (.bool true) := by
  refine fn_of (Z := Zs) ok3 fun σ hcl hbl => ?_
  simp -dsimp only [L3, encSS, ↓preB, postB, genB, ↓reduceIte, Nat.reduceEqDiff, Int.reduceToNat, Int.reduceLE, Int.reduceLT, Nat.reduceAdd, Nat.reduceLeDiff, intBin, strBin, unD, extractD, lit1, lit2, lit3, keptD, boxR, D.one, D.pub1, D.cells, splice, cutOwn]
  refine Fn.useP (IsLong_c w hs) rfl ?_
  by_cases c1 : 16384 < cntW w 0
  · have e1 : decide (16384 < cntW w 0) = true := decide_eq_true c1
    simp -dsimp only [e1, ↓preB, postB, genB, ↓reduceIte, Nat.reduceEqDiff, Int.reduceToNat, Int.reduceLE, Int.reduceLT, Nat.reduceAdd, Nat.reduceLeDiff, intBin, strBin, unD, extractD, lit1, lit2, lit3, keptD, boxR, D.one, D.pub1, D.cells, splice, cutOwn]
    refine Fn.use flagKnown_c ?_
    simp -dsimp only [↓preB, postB, genB, ↓reduceIte, Nat.reduceEqDiff, Int.reduceToNat, Int.reduceLE, Int.reduceLT, Nat.reduceAdd, Nat.reduceLeDiff, intBin, strBin, unD, extractD, lit1, lit2, lit3, keptD, boxR, D.one, D.pub1, D.cells, splice, cutOwn]
    exact Ret.is rfl
  have e1 : decide (16384 < cntW w 0) = false := decide_eq_false c1
  obtain ⟨hl, hz⟩ := cntW_small (w := w) (n := 0) (by omega)
  have hz' : ∀ s ∈ w, s.size ≤ 100000 := fun s h => by have := hz s h; omega
  simp -dsimp only [e1, ↓preB, postB, genB, ↓reduceIte, Nat.reduceEqDiff, Int.reduceToNat, Int.reduceLE, Int.reduceLT, Nat.reduceAdd, Nat.reduceLeDiff, intBin, strBin, unD, extractD, lit1, lit2, lit3, keptD, boxR, D.one, D.pub1, D.cells, splice, cutOwn]
  refine pwp_loopG (fun k env s => k ≤ w.length ∧ s = σ ∧ env 3 = .int .i64 (k:Nat) ∧ env 0 = encSS w) (fun k => w.length - k) 0 ?_ ?_
  · simp only [upd_apply, envOf_apply, encSS, Nat.reduceEqDiff, if_true, if_false]
    exact ⟨Nat.zero_le _, by simp⟩
  · rintro k env s ⟨hk, rfl, h3, h0⟩
    rcases Nat.lt_or_ge k w.length with hlt | hge
    · have hx : w[k]? = some w[k] := List.getElem?_eq_getElem hlt
      have hlp : 0 < w.length := by omega
      have hn : (k : Int) < w.length := by omega
      have hzk := hz' _ (List.getElem_mem hlt)
      simp -dsimp only [h3, h0, encSS, hlt, hx, hlp, hn, ↓preB, postB, genB, ↓reduceIte, Nat.reduceEqDiff, Int.reduceToNat, Int.reduceLE, Int.reduceLT, Nat.reduceAdd, Nat.reduceLeDiff, intBin, strBin, unD, extractD, lit1, lit2, lit3, keptD, boxR, D.one, D.pub1, D.cells, splice, cutOwn]
      intros
      refine draw_s ?_
      simp -dsimp only [h3, h0, encSS, hlt, hx, hlp, hn, ↓preB, postB, genB, ↓reduceIte, Nat.reduceEqDiff, Int.reduceToNat, Int.reduceLE, Int.reduceLT, Nat.reduceAdd, Nat.reduceLeDiff, intBin, strBin, unD, extractD, lit1, lit2, lit3, keptD, boxR, D.one, D.pub1, D.cells, splice, cutOwn]
      refine Fn.useS (Is_s w[k] hzk) ?_
      simp -dsimp only [h3, h0, encSS, hlt, hx, hlp, hn, ↓preB, postB, genB, ↓reduceIte, Nat.reduceEqDiff, Int.reduceToNat, Int.reduceLE, Int.reduceLT, Nat.reduceAdd, Nat.reduceLeDiff, intBin, strBin, unD, extractD, lit1, lit2, lit3, keptD, boxR, D.one, D.pub1, D.cells, splice, cutOwn]
      refine Fn.useS (refIs_s w[k] hzk) ?_
      have eb : ∀ b : Bool, (b == b) = true := fun b => by cases b <;> rfl
      simp -dsimp only [h3, h0, encSS, hlt, hx, hlp, hn, eb, Bool.not_true, ↓preB, postB, genB, ↓reduceIte, Nat.reduceEqDiff, Int.reduceToNat, Int.reduceLE, Int.reduceLT, Nat.reduceAdd, Nat.reduceLeDiff, intBin, strBin, unD, extractD, lit1, lit2, lit3, keptD, boxR, D.one, D.pub1, D.cells, splice, cutOwn]
      exact ⟨k + 1, ⟨by omega, wrap64_succ (by simp only [big]; omega)⟩, by omega⟩
    · have hn : ¬ (k : Int) < w.length := by omega
      simp -dsimp only [h3, h0, encSS, hn, ↓preB, postB, genB, ↓reduceIte, Nat.reduceEqDiff, Int.reduceToNat, Int.reduceLE, Int.reduceLT, Nat.reduceAdd, Nat.reduceLeDiff, intBin, strBin, unD, extractD, lit1, lit2, lit3, keptD, boxR, D.one, D.pub1, D.cells, splice, cutOwn]
      intros
      have hM := Marks_c w (by omega) hz'
      have hR := refMarks_c w (by omega) hz'
      unfold encSS at hM hR
      refine Fn.use hM ?_
      simp -dsimp only [h3, h0, encSS, ↓preB, postB, genB, ↓reduceIte, Nat.reduceEqDiff, Int.reduceToNat, Int.reduceLE, Int.reduceLT, Nat.reduceAdd, Nat.reduceLeDiff, intBin, strBin, unD, extractD, lit1, lit2, lit3, keptD, boxR, D.one, D.pub1, D.cells, splice, cutOwn]
      refine Fn.use hR ?_
      simp -dsimp only [h3, h0, encSS, ↓preB, postB, genB, ↓reduceIte, Nat.reduceEqDiff, Int.reduceToNat, Int.reduceLE, Int.reduceLT, Nat.reduceAdd, Nat.reduceLeDiff, intBin, strBin, unD, extractD, lit1, lit2, lit3, keptD, boxR, D.one, D.pub1, D.cells, splice, cutOwn]
      have hS := Same_c (mkR w).1 (mkR w).1
      rw [eqW_iff.2 rfl] at hS
      unfold encSS at hS
      refine Fn.use hS ?_
      have ei : ∀ x : Int, (x == x) = true := fun x => by simp
      simp -dsimp only [h3, h0, ei, gate, show (true == true) = true from rfl, ↓preB, postB, genB, ↓reduceIte, Nat.reduceEqDiff, Int.reduceToNat, Int.reduceLE, Int.reduceLT, Nat.reduceAdd, Nat.reduceLeDiff, intBin, strBin, unD, extractD, lit1, lit2, lit3, keptD, boxR, D.one, D.pub1, D.cells, splice, cutOwn]
      refine Fn.use flagKnown_c ?_
      simp -dsimp only [↓preB, postB, genB, ↓reduceIte, Nat.reduceEqDiff, Int.reduceToNat, Int.reduceLE, Int.reduceLT, Nat.reduceAdd, Nat.reduceLeDiff, intBin, strBin, unD, extractD, lit1, lit2, lit3, keptD, boxR, D.one, D.pub1, D.cells, splice, cutOwn]
      exact Ret.is rfl
end Go.Proofs.YtpmjfoplpccblaaDoor.Vs
