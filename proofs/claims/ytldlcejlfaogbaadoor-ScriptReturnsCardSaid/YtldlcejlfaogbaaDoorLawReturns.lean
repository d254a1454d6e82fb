/- numbers of YtldlcejlfaogbaaDoor -/
/- The law ScriptReturns. -/
import Derived.Test.YtldlcejlfaogbaaDoorMgA
import Derived.Test.YtldlcejlfaogbaaDoorRetF3
namespace Go.Proofs.YtldlcejlfaogbaaDoor.Vs
set_option linter.unusedVariables false
set_option linter.unusedSimpArgs false
set_option maxRecDepth 20000

theorem rev_is {t out : List Sh} {ok is : Bool} {e f : Int} (h : RevSpec t out ok e) (k : RvSpec t is f) : e = f ∧ (ok = true → is = true) := by
  rcases h with ⟨h1, h2, h3⟩ | ⟨h1, h2, h3, h4⟩ | ⟨h1, h2, h3, h4⟩
  · rcases k with ⟨k1, k2, k3⟩ | ⟨k1, _⟩ | ⟨k1, _⟩
    · exact ⟨by rw [h3, k3], fun h => by rw [h2] at h; cases h⟩
    · exact absurd k1 h1
    · exact absurd k1 h1
  · rcases k with ⟨k1, _⟩ | ⟨k1, k2, k3, k4⟩ | ⟨k1, k2, _⟩
    · exact absurd h1 k1
    · exact ⟨by rw [h4, k4], fun h => by rw [h3] at h; cases h⟩
    · exact absurd k2 h2
  · rcases k with ⟨k1, _⟩ | ⟨k1, k2, _⟩ | ⟨k1, k2, k3, res, hS, k4⟩
    · exact absurd h1 k1
    · exact absurd h2 k2
    · refine ⟨by rw [h3, k3], fun hok => ?_⟩
      obtain ⟨hp, ho, hj⟩ := h4 hok
      rw [k4]
      have hpl : plainT t = true := by
        unfold askE at h2
        cases c : plainT t with
        | true => rfl
        | false => rw [c] at h2; cases h2
      unfold SpecC at hS
      split at hS
      · rename_i i hf
        have := List.findIdx?_eq_some_iff_getElem.1 hf
        obtain ⟨hi, hn, _⟩ := this
        rw [List.getElem_map] at hn
        have hit : i < t.length := by simpa using hi
        have hem : t[i].To = [] := by
          unfold noneIn at hn
          exact List.eq_nil_of_length_eq_zero (by simpa using hn)
        exact absurd hem ((table_ok ho).1 ⟨t[i].To, t[i].From⟩ (hp.mem_iff.2 (List.mem_map.2 ⟨t[i], List.getElem_mem hit, rfl⟩)))
      · cases res with
        | none => rfl
        | some p =>
          obtain ⟨a, b⟩ := p
          simp only at hS
          exact absurd (rev_unique h1 hpl ho hp hj hS.2.1 hS.2.2.1 hS.2.2.2.1) hS.1
theorem returns_of (t : List Sh) (w : Wd) : Fn Zs 6 [encT t, encSS w] (.bool true) := by
  refine fn_of (Z := Zs) ok6 fun σ hcl hbl => ?_
  simp -dsimp only [L6, ↓preB, postB, genB, ↓reduceIte, Nat.reduceEqDiff, Int.reduceToNat, Int.reduceLE, Int.reduceLT, Nat.reduceAdd, Nat.reduceLeDiff, intBin, strBin, unD, extractD, lit1, lit2, lit3, keptD, boxR, D.one, D.pub1, D.cells, splice, cutOwn]
  refine Fn.use (over_c t) ?_
  cases c1 : decide (100000 < overF t t.length)
  case true =>
    simp -dsimp only [c1, gate, show (true == false) = false from rfl, ↓preB, postB, genB, ↓reduceIte, Nat.reduceEqDiff, Int.reduceToNat, Int.reduceLE, Int.reduceLT, Nat.reduceAdd, Nat.reduceLeDiff, intBin, strBin, unD, extractD, lit1, lit2, lit3, keptD, boxR, D.one, D.pub1, D.cells, splice, cutOwn]
    refine Fn.use known_c ?_
    simp -dsimp only [↓preB, postB, genB, ↓reduceIte, Nat.reduceEqDiff, Int.reduceToNat, Int.reduceLE, Int.reduceLT, Nat.reduceAdd, Nat.reduceLeDiff, intBin, strBin, unD, extractD, lit1, lit2, lit3, keptD, boxR, D.one, D.pub1, D.cells, splice, cutOwn]
    exact Ret.is rfl
  simp -dsimp only [c1, gate, show (false == false) = true from rfl, encSS, ↓preB, postB, genB, ↓reduceIte, Nat.reduceEqDiff, Int.reduceToNat, Int.reduceLE, Int.reduceLT, Nat.reduceAdd, Nat.reduceLeDiff, intBin, strBin, unD, extractD, lit1, lit2, lit3, keptD, boxR, D.one, D.pub1, D.cells, splice, cutOwn]
  refine Fn.useP (bytes_c [w]) rfl ?_
  by_cases c3 : 100000 < bytesF [w] 0
  · simp -dsimp only [c1, c3, ↓preB, postB, genB, ↓reduceIte, Nat.reduceEqDiff, Int.reduceToNat, Int.reduceLE, Int.reduceLT, Nat.reduceAdd, Nat.reduceLeDiff, intBin, strBin, unD, extractD, lit1, lit2, lit3, keptD, boxR, D.one, D.pub1, D.cells, splice, cutOwn]
    refine Fn.use known_c ?_
    simp -dsimp only [↓preB, postB, genB, ↓reduceIte, Nat.reduceEqDiff, Int.reduceToNat, Int.reduceLE, Int.reduceLT, Nat.reduceAdd, Nat.reduceLeDiff, intBin, strBin, unD, extractD, lit1, lit2, lit3, keptD, boxR, D.one, D.pub1, D.cells, splice, cutOwn]
    exact Ret.is rfl
  simp -dsimp only [c1, c3, ↓preB, postB, genB, ↓reduceIte, Nat.reduceEqDiff, Int.reduceToNat, Int.reduceLE, Int.reduceLT, Nat.reduceAdd, Nat.reduceLeDiff, intBin, strBin, unD, extractD, lit1, lit2, lit3, keptD, boxR, D.one, D.pub1, D.cells, splice, cutOwn]
  refine PCall.use (Reverse_p t) ?_
  rintro d τ ⟨rfl, out, ok, e, rfl, hR⟩
  simp -dsimp only [↓preB, postB, genB, ↓reduceIte, Nat.reduceEqDiff, Int.reduceToNat, Int.reduceLE, Int.reduceLT, Nat.reduceAdd, Nat.reduceLeDiff, intBin, strBin, unD, extractD, lit1, lit2, lit3, keptD, boxR, D.one, D.pub1, D.cells, splice, cutOwn]
  refine PCall.use (Reversible_p t) ?_
  rintro d τ ⟨rfl, is, f, rfl, hV⟩
  obtain ⟨rfl, hoi⟩ := rev_is hR hV
  have ee : (e != e) = false := by simp
  cases ok
  · cases is <;>
    · simp -dsimp only [ee, gate, show (false == false) = true from rfl, show (false == true) = false from rfl, show (true == true) = true from rfl, Bool.not_true, Bool.not_false, ↓preB, postB, genB, ↓reduceIte, Nat.reduceEqDiff, Int.reduceToNat, Int.reduceLE, Int.reduceLT, Nat.reduceAdd, Nat.reduceLeDiff, intBin, strBin, unD, extractD, lit1, lit2, lit3, keptD, boxR, D.one, D.pub1, D.cells, splice, cutOwn]
      refine Fn.use known_c ?_
      simp -dsimp only [↓preB, postB, genB, ↓reduceIte, Nat.reduceEqDiff, Int.reduceToNat, Int.reduceLE, Int.reduceLT, Nat.reduceAdd, Nat.reduceLeDiff, intBin, strBin, unD, extractD, lit1, lit2, lit3, keptD, boxR, D.one, D.pub1, D.cells, splice, cutOwn]
      exact Ret.isH (HLe.self_new _ hcl) hcl rfl (.bool _)
  have hi := hoi rfl
  subst hi
  simp -dsimp only [ee, gate, show (false == false) = true from rfl, show (false == true) = false from rfl, show (true == true) = true from rfl, Bool.not_true, Bool.not_false, ↓preB, postB, genB, ↓reduceIte, Nat.reduceEqDiff, Int.reduceToNat, Int.reduceLE, Int.reduceLT, Nat.reduceAdd, Nat.reduceLeDiff, intBin, strBin, unD, extractD, lit1, lit2, lit3, keptD, boxR, D.one, D.pub1, D.cells, splice, cutOwn]
  obtain ⟨hp, ho, hj⟩ : out.Perm (rev t) ∧ badT out = 0 ∧ joinsW out (t.map (·.To)) = true := by
    rcases hR with ⟨_, h, _⟩ | ⟨_, _, h, _⟩ | ⟨_, _, _, h⟩
    · cases h
    · cases h
    · exact h rfl
  have hle := HLe.self_new (.cells 41 [D.junk, D.junk]) hcl
  generalize τ.new (.cells 41 [D.junk, D.junk]) = s1 at hle ⊢
  refine Fn.use (Shift_c t w) ?_
  simp -dsimp only [encSS, ↓preB, postB, genB, ↓reduceIte, Nat.reduceEqDiff, Int.reduceToNat, Int.reduceLE, Int.reduceLT, Nat.reduceAdd, Nat.reduceLeDiff, intBin, strBin, unD, extractD, lit1, lit2, lit3, keptD, boxR, D.one, D.pub1, D.cells, splice, cutOwn]
  refine Fn.use (Clean_c t w) ?_
  simp -dsimp only [encSS, ↓preB, postB, genB, ↓reduceIte, Nat.reduceEqDiff, Int.reduceToNat, Int.reduceLE, Int.reduceLT, Nat.reduceAdd, Nat.reduceLeDiff, intBin, strBin, unD, extractD, lit1, lit2, lit3, keptD, boxR, D.one, D.pub1, D.cells, splice, cutOwn]
  have fin : ∀ {K : D → Heap → Prop} {hK : Keep K}, K (.bool true) s1 → kCall Zs 8 [] s1 K hK := fun h => Fn.use known_c h
  cases d1 : ((shiftR t w).2 == 0)
  case false =>
    simp -dsimp only [d1, gate, show (false == true) = false from rfl, ↓preB, postB, genB, ↓reduceIte, Nat.reduceEqDiff, Int.reduceToNat, Int.reduceLE, Int.reduceLT, Nat.reduceAdd, Nat.reduceLeDiff, intBin, strBin, unD, extractD, lit1, lit2, lit3, keptD, boxR, D.one, D.pub1, D.cells, splice, cutOwn]
    refine fin ?_
    simp -dsimp only [↓preB, postB, genB, ↓reduceIte, Nat.reduceEqDiff, Int.reduceToNat, Int.reduceLE, Int.reduceLT, Nat.reduceAdd, Nat.reduceLeDiff, intBin, strBin, unD, extractD, lit1, lit2, lit3, keptD, boxR, D.one, D.pub1, D.cells, splice, cutOwn]
    exact Ret.isH hle hcl rfl (.bool _)
  cases d2 : ((cleanR t w).2 == 0)
  case false =>
    simp -dsimp only [d1, d2, gate, show (false == true) = false from rfl, show (true == true) = true from rfl, ↓preB, postB, genB, ↓reduceIte, Nat.reduceEqDiff, Int.reduceToNat, Int.reduceLE, Int.reduceLT, Nat.reduceAdd, Nat.reduceLeDiff, intBin, strBin, unD, extractD, lit1, lit2, lit3, keptD, boxR, D.one, D.pub1, D.cells, splice, cutOwn]
    refine fin ?_
    simp -dsimp only [↓preB, postB, genB, ↓reduceIte, Nat.reduceEqDiff, Int.reduceToNat, Int.reduceLE, Int.reduceLT, Nat.reduceAdd, Nat.reduceLeDiff, intBin, strBin, unD, extractD, lit1, lit2, lit3, keptD, boxR, D.one, D.pub1, D.cells, splice, cutOwn]
    exact Ret.isH hle hcl rfl (.bool _)
  cases d3 : (cleanR t w).1
  case false =>
    simp -dsimp only [d1, d2, d3, gate, show (false == true) = false from rfl, show (true == true) = true from rfl, ↓preB, postB, genB, ↓reduceIte, Nat.reduceEqDiff, Int.reduceToNat, Int.reduceLE, Int.reduceLT, Nat.reduceAdd, Nat.reduceLeDiff, intBin, strBin, unD, extractD, lit1, lit2, lit3, keptD, boxR, D.one, D.pub1, D.cells, splice, cutOwn]
    refine fin ?_
    simp -dsimp only [↓preB, postB, genB, ↓reduceIte, Nat.reduceEqDiff, Int.reduceToNat, Int.reduceLE, Int.reduceLT, Nat.reduceAdd, Nat.reduceLeDiff, intBin, strBin, unD, extractD, lit1, lit2, lit3, keptD, boxR, D.one, D.pub1, D.cells, splice, cutOwn]
    exact Ret.isH hle hcl rfl (.bool _)
  simp -dsimp only [d1, d2, d3, gate, show (true == true) = true from rfl, ↓preB, postB, genB, ↓reduceIte, Nat.reduceEqDiff, Int.reduceToNat, Int.reduceLE, Int.reduceLT, Nat.reduceAdd, Nat.reduceLeDiff, intBin, strBin, unD, extractD, lit1, lit2, lit3, keptD, boxR, D.one, D.pub1, D.cells, splice, cutOwn]
  have ht : badT t = 0 := by
    rcases hR with ⟨_, h, _⟩ | ⟨_, _, h, _⟩ | ⟨h, _⟩
    · cases h
    · cases h
    · exact h
  have hr := returns ht ho hp hj (Prod.ext d3 (by simpa using d2)) (by simpa using d1)
  refine Fn.use (Shift_c out (shiftR t w).1) ?_
  rw [hr]
  simp -dsimp only [gate, show ((0 : Int) != 0) = false from rfl, show (false == false) = true from rfl, ↓preB, postB, genB, ↓reduceIte, Nat.reduceEqDiff, Int.reduceToNat, Int.reduceLE, Int.reduceLT, Nat.reduceAdd, Nat.reduceLeDiff, intBin, strBin, unD, extractD, lit1, lit2, lit3, keptD, boxR, D.one, D.pub1, D.cells, splice, cutOwn]
  refine Fn.use (Same_c w w) ?_
  have e1 : eqW w w = true := eqW_iff.2 rfl
  simp -dsimp only [e1, gate, ↓preB, postB, genB, ↓reduceIte, Nat.reduceEqDiff, Int.reduceToNat, Int.reduceLE, Int.reduceLT, Nat.reduceAdd, Nat.reduceLeDiff, intBin, strBin, unD, extractD, lit1, lit2, lit3, keptD, boxR, D.one, D.pub1, D.cells, splice, cutOwn]
  refine fin ?_
  simp -dsimp only [↓preB, postB, genB, ↓reduceIte, Nat.reduceEqDiff, Int.reduceToNat, Int.reduceLE, Int.reduceLT, Nat.reduceAdd, Nat.reduceLeDiff, intBin, strBin, unD, extractD, lit1, lit2, lit3, keptD, boxR, D.one, D.pub1, D.cells, splice, cutOwn]
  exact Ret.isH hle hcl rfl (.bool _)
end Go.Proofs.YtldlcejlfaogbaaDoor.Vs
