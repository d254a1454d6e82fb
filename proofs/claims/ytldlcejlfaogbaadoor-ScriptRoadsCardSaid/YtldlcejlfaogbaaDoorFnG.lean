/- The shifted word and whether a word is clean, by the program. -/
import Derived.Test.YtldlcejlfaogbaaDoorFnF
namespace Go.Proofs.YtldlcejlfaogbaaDoor.Vs
set_option linter.unusedVariables false
set_option linter.unusedSimpArgs false
set_option maxRecDepth 20000

def errTW (t : List Sh) (w : Wd) : Int := if badT t != 0 then badT t else badW w
theorem firstE_zero : ∀ {t : List Sh}, firstE t = 0 → ∀ r ∈ t, badW r.From = 0 ∧ badW r.To = 0
  | [], _, r, hr => by cases hr
  | q :: t, h, r, hr => by
    simp only [firstE] at h
    cases c : (rowE q != 0)
    · rw [c] at h
      simp only [Bool.false_eq_true, if_false] at h
      rcases List.mem_cons.1 hr with rfl | hr
      · simp at c
        unfold rowE at c
        cases c2 : (badW r.From != 0)
        · rw [c2] at c; simp at c c2; exact ⟨c2, c⟩
        · rw [c2] at c; simp at c c2; exact absurd c c2
      · exact firstE_zero h r hr
    · rw [c] at h
      simp only [if_true] at h
      rw [h] at c; simp at c
theorem ordBad_false : ∀ {t : List Sh} {p : Option Wd}, ordBad p t = false → ∀ r ∈ t, r.From ≠ []
  | [], _, _, r, hr => by cases hr
  | q :: t, p, h, r, hr => by
    simp only [ordBad, badO, Bool.or_eq_false_iff] at h
    rcases List.mem_cons.1 hr with rfl | hr
    · intro he
      have := h.1.1
      rw [he] at this
      simp at this
    · exact ordBad_false h.2 r hr
theorem badT_zero {t : List Sh} (h : badT t = 0) : t.length ≤ 24 ∧ firstE t = 0 ∧ ordBad none t = false := by
  unfold badT at h
  split at h
  · cases h
  · rename_i hl
    cases c : (firstE t != 0)
    · rw [c] at h
      simp only [Bool.false_eq_true, if_false] at h
      simp at c
      refine ⟨by omega, c, ?_⟩
      cases c2 : ordBad none t
      · rfl
      · rw [c2] at h; cases h
    · rw [c] at h
      simp only [if_true] at h
      rw [h] at c; simp at c
theorem table_ok {t : List Sh} (h : badT t = 0) : (∀ r ∈ t, r.From ≠ []) ∧ ∀ r ∈ t, r.To.length ≤ 60 := by
  obtain ⟨_, h1, h2⟩ := badT_zero h
  exact ⟨ordBad_false h2, fun r hr => badW_len (firstE_zero h1 r hr).2⟩

theorem checked_c (t : List Sh) (w : Wd) : Fn Zs 33 [encT t, encSS w] (.int .i64 (errTW t w)) := by
  refine fn_of (Z := Zs) ok33 fun σ hcl hbl => ?_
  simp -dsimp only [L33, ↓preB, postB, genB, ↓reduceIte, Nat.reduceEqDiff, Int.reduceToNat, Int.reduceLE, Int.reduceLT, Nat.reduceAdd, Nat.reduceLeDiff, intBin, strBin, unD, extractD, lit1, lit2, lit3, keptD, boxR, D.one, D.pub1, D.cells, splice, cutOwn]
  refine Fn.use (validate_c t) ?_
  cases c : (badT t != 0)
  · simp -dsimp only [c, ↓preB, postB, genB, ↓reduceIte, Nat.reduceEqDiff, Int.reduceToNat, Int.reduceLE, Int.reduceLT, Nat.reduceAdd, Nat.reduceLeDiff, intBin, strBin, unD, extractD, lit1, lit2, lit3, keptD, boxR, D.one, D.pub1, D.cells, splice, cutOwn]
    refine Fn.use (symsValidateWord_c w) ?_
    simp -dsimp only [c, ↓preB, postB, genB, ↓reduceIte, Nat.reduceEqDiff, Int.reduceToNat, Int.reduceLE, Int.reduceLT, Nat.reduceAdd, Nat.reduceLeDiff, intBin, strBin, unD, extractD, lit1, lit2, lit3, keptD, boxR, D.one, D.pub1, D.cells, splice, cutOwn]
    exact Ret.is (by simp only [errTW, c]; rfl)
  · simp -dsimp only [c, ↓preB, postB, genB, ↓reduceIte, Nat.reduceEqDiff, Int.reduceToNat, Int.reduceLE, Int.reduceLT, Nat.reduceAdd, Nat.reduceLeDiff, intBin, strBin, unD, extractD, lit1, lit2, lit3, keptD, boxR, D.one, D.pub1, D.cells, splice, cutOwn]
    exact Ret.is (by simp only [errTW, c]; rfl)
theorem errTW_zero {t : List Sh} {w : Wd} (h : errTW t w = 0) : badT t = 0 ∧ badW w = 0 := by
  unfold errTW at h
  cases c : (badT t != 0)
  · rw [c] at h; simp at c h; exact ⟨c, h⟩
  · rw [c] at h; simp at c h; exact absurd h c

/-- What Shift returns. -/
def shiftR (t : List Sh) (w : Wd) : Wd × Int := if errTW t w != 0 then ([], errTW t w) else if 60 < (shiftW t w).1.length then ([], 3) else ((shiftW t w).1, 0)
def cleanR (t : List Sh) (w : Wd) : Bool × Int := if errTW t w != 0 then (false, errTW t w) else ((shiftW t w).2, 0)

theorem Shift_c (t : List Sh) (w : Wd) : Fn Zs 14 [encT t, encSS w] (.tup [encSS (shiftR t w).1, .int .i64 (shiftR t w).2]) := by
  refine fn_of (Z := Zs) ok14 fun σ hcl hbl => ?_
  simp -dsimp only [L14, ↓preB, postB, genB, ↓reduceIte, Nat.reduceEqDiff, Int.reduceToNat, Int.reduceLE, Int.reduceLT, Nat.reduceAdd, Nat.reduceLeDiff, intBin, strBin, unD, extractD, lit1, lit2, lit3, keptD, boxR, D.one, D.pub1, D.cells, splice, cutOwn]
  refine Fn.use (checked_c t w) ?_
  cases c : (errTW t w != 0)
  · obtain ⟨e1, e2⟩ := errTW_zero (by simpa using c)
    obtain ⟨h1, h2⟩ := table_ok e1
    have h3 := badW_len e2
    simp -dsimp only [c, ↓preB, postB, genB, ↓reduceIte, Nat.reduceEqDiff, Int.reduceToNat, Int.reduceLE, Int.reduceLT, Nat.reduceAdd, Nat.reduceLeDiff, intBin, strBin, unD, extractD, lit1, lit2, lit3, keptD, boxR, D.one, D.pub1, D.cells, splice, cutOwn]
    refine Fn.use (shifted_c t w h1 h2 (by omega)) ?_
    by_cases c2 : (60 : Int) < ((shiftW t w).1).length
    · simp -dsimp only [c, c2, encSS, ↓preB, postB, genB, ↓reduceIte, Nat.reduceEqDiff, Int.reduceToNat, Int.reduceLE, Int.reduceLT, Nat.reduceAdd, Nat.reduceLeDiff, intBin, strBin, unD, extractD, lit1, lit2, lit3, keptD, boxR, D.one, D.pub1, D.cells, splice, cutOwn]
      intros
      simp only [shiftR, c, if_pos (show 60 < (shiftW t w).1.length by omega)]
      exact Ret.less (HLe.refl _) hcl (.tup2 (.sl .nil .no 0 [] [] (.inl rfl) rfl (fun i h => by cases h)) (.refl _)) (.tup2 (.no (by simp)) (.int _ _))
    · simp -dsimp only [c, c2, encSS, ↓preB, postB, genB, ↓reduceIte, Nat.reduceEqDiff, Int.reduceToNat, Int.reduceLE, Int.reduceLT, Nat.reduceAdd, Nat.reduceLeDiff, intBin, strBin, unD, extractD, lit1, lit2, lit3, keptD, boxR, D.one, D.pub1, D.cells, splice, cutOwn]
      intros
      refine Ret.is ?_
      simp only [shiftR, c, if_neg (show ¬ 60 < (shiftW t w).1.length by omega)]; rfl
  · simp -dsimp only [c, ↓preB, postB, genB, ↓reduceIte, Nat.reduceEqDiff, Int.reduceToNat, Int.reduceLE, Int.reduceLT, Nat.reduceAdd, Nat.reduceLeDiff, intBin, strBin, unD, extractD, lit1, lit2, lit3, keptD, boxR, D.one, D.pub1, D.cells, splice, cutOwn]
    simp only [shiftR, c]
    exact Ret.less (HLe.refl _) hcl (.tup2 (.sl .nil .no 0 [] [] (.inl rfl) rfl (fun i h => by cases h)) (.refl _)) (.tup2 (.no (by simp)) (.int _ _))
theorem Clean_c (t : List Sh) (w : Wd) : Fn Zs 13 [encT t, encSS w] (.tup [.bool (cleanR t w).1, .int .i64 (cleanR t w).2]) := by
  refine fn_of (Z := Zs) ok13 fun σ hcl hbl => ?_
  simp -dsimp only [L13, ↓preB, postB, genB, ↓reduceIte, Nat.reduceEqDiff, Int.reduceToNat, Int.reduceLE, Int.reduceLT, Nat.reduceAdd, Nat.reduceLeDiff, intBin, strBin, unD, extractD, lit1, lit2, lit3, keptD, boxR, D.one, D.pub1, D.cells, splice, cutOwn]
  refine Fn.use (checked_c t w) ?_
  cases c : (errTW t w != 0)
  · obtain ⟨e1, e2⟩ := errTW_zero (by simpa using c)
    obtain ⟨h1, h2⟩ := table_ok e1
    have h3 := badW_len e2
    simp -dsimp only [c, ↓preB, postB, genB, ↓reduceIte, Nat.reduceEqDiff, Int.reduceToNat, Int.reduceLE, Int.reduceLT, Nat.reduceAdd, Nat.reduceLeDiff, intBin, strBin, unD, extractD, lit1, lit2, lit3, keptD, boxR, D.one, D.pub1, D.cells, splice, cutOwn]
    refine Fn.use (shifted_c t w h1 h2 (by omega)) ?_
    simp -dsimp only [c, encSS, ↓preB, postB, genB, ↓reduceIte, Nat.reduceEqDiff, Int.reduceToNat, Int.reduceLE, Int.reduceLT, Nat.reduceAdd, Nat.reduceLeDiff, intBin, strBin, unD, extractD, lit1, lit2, lit3, keptD, boxR, D.one, D.pub1, D.cells, splice, cutOwn]
    refine Ret.is ?_
    simp only [cleanR, c]; rfl
  · simp -dsimp only [c, ↓preB, postB, genB, ↓reduceIte, Nat.reduceEqDiff, Int.reduceToNat, Int.reduceLE, Int.reduceLT, Nat.reduceAdd, Nat.reduceLeDiff, intBin, strBin, unD, extractD, lit1, lit2, lit3, keptD, boxR, D.one, D.pub1, D.cells, splice, cutOwn]
    refine Ret.is ?_
    simp only [cleanR, c]; rfl
end Go.Proofs.YtldlcejlfaogbaaDoor.Vs
