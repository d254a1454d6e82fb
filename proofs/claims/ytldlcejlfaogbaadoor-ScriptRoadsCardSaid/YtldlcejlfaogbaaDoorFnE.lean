/- Which tables there are. -/
import Derived.Test.YtldlcejlfaogbaaDoorFnD
namespace Go.Proofs.YtldlcejlfaogbaaDoor.Vs
set_option linter.unusedVariables false
set_option linter.unusedSimpArgs false
set_option maxRecDepth 20000

def rowE (r : Sh) : Int := if badW r.From != 0 then badW r.From else badW r.To
def firstE : List Sh → Int
  | [] => 0
  | r :: t => if rowE r != 0 then rowE r else firstE t
def badO (p : Option Wd) (r : Sh) : Bool := r.From.length == 0 || (match p with | none => false | some q => decide (0 ≤ ordW q r.From))
def ordBad : Option Wd → List Sh → Bool
  | _, [] => false
  | p, r :: t => badO p r || ordBad (some r.From) t
def prevF (t : List Sh) (k : Nat) : Option Wd := if k = 0 then none else (t[k - 1]?).map (·.From)
def badT (t : List Sh) : Int := if 24 < t.length then 3 else if firstE t != 0 then firstE t else if ordBad none t then 1 else 0

theorem words2 (r : Sh) : ((([r.From, r.To]).map badW).find? (fun e => e != 0)).getD 0 = rowE r := by
  simp only [List.map_cons, List.map_nil, List.find?_cons, List.find?_nil, rowE]
  cases h1 : (badW r.From != 0)
  · cases h2 : (badW r.To != 0)
    · simp at h2; simp [h2]
    · simp
  · simp
theorem badO_prev {t : List Sh} {k : Nat} (h : k < t.length) (h0 : k ≠ 0) : badO (prevF t k) t[k] = ((t[k].From).length == 0 || decide (0 ≤ ordW (t[k-1]'(by omega)).From t[k].From)) := by
  have : (t[k - 1]?) = some (t[k-1]'(by omega)) := List.getElem?_eq_getElem (by omega)
  simp [badO, prevF, h0, this]
theorem prevF_next {t : List Sh} {k : Nat} (h : k < t.length) : prevF t (k + 1) = some t[k].From := by
  simp [prevF, h]

theorem wrap64_pred {k : Nat} (h : k ≠ 0) (h2 : k ≤ big) : IntKind.i64.wrap ((k : Int) - 1) = ((k - 1 : Nat) : Int) := by
  rw [wrap64_in] <;> simp only [big] at h2 <;> omega
theorem refValidate_c (t : List Sh) : Fn Zs 25 [encT t] (.int .i64 (badT t)) := by
  refine fn_of (Z := Zs) ok25 fun σ hcl hbl => ?_
  simp -dsimp only [L25, encT, ↓preB, postB, genB, ↓reduceIte, Nat.reduceEqDiff, Int.reduceToNat, Int.reduceLE, Int.reduceLT, Nat.reduceAdd, Nat.reduceLeDiff, intBin, strBin, unD, extractD, lit1, lit2, lit3, keptD, boxR, D.one, D.pub1, D.cells, splice, cutOwn]
  intro hbig
  by_cases c0 : (24 : Int) < t.length
  · simp -dsimp only [c0, ↓preB, postB, genB, ↓reduceIte, Nat.reduceEqDiff, Int.reduceToNat, Int.reduceLE, Int.reduceLT, Nat.reduceAdd, Nat.reduceLeDiff, intBin, strBin, unD, extractD, lit1, lit2, lit3, keptD, boxR, D.one, D.pub1, D.cells, splice, cutOwn]
    exact Ret.is (by rw [badT, if_pos (by omega)])
  simp -dsimp only [c0, encT, ↓preB, postB, genB, ↓reduceIte, Nat.reduceEqDiff, Int.reduceToNat, Int.reduceLE, Int.reduceLT, Nat.reduceAdd, Nat.reduceLeDiff, intBin, strBin, unD, extractD, lit1, lit2, lit3, keptD, boxR, D.one, D.pub1, D.cells, splice, cutOwn]
  refine pwp_loopG (fun k env s => k ≤ t.length ∧ firstE (t.drop k) = firstE t ∧ s = σ ∧ env 3 = .int .i64 (k:Nat) ∧ env 0 = encT t) (fun k => t.length - k) 0 ?_ ?_
  · simp [upd_apply, envOf_apply, encT]
  · rintro k env s ⟨hk, hp, rfl, h3, h0⟩
    rcases Nat.lt_or_ge k t.length with hlt | hge
    · have hd := rowsD_at hlt
      have hpos : 0 < (rowsD t).length := by rw [rowsD_len]; omega
      rw [List.drop_eq_getElem_cons hlt, firstE] at hp
      simp -dsimp only [h3, h0, encT, hlt, hd, hpos, hbig, ↓preB, postB, genB, ↓reduceIte, Nat.reduceEqDiff, Int.reduceToNat, Int.reduceLE, Int.reduceLT, Nat.reduceAdd, Nat.reduceLeDiff, intBin, strBin, unD, extractD, lit1, lit2, lit3, keptD, boxR, D.one, D.pub1, D.cells, splice, cutOwn]
      refine draw_t 10 (by decide) ?_
      simp -dsimp only [h3, h0, encT, encSS, hlt, hd, hpos, hbig, ↓preB, postB, genB, ↓reduceIte, Nat.reduceEqDiff, Int.reduceToNat, Int.reduceLE, Int.reduceLT, Nat.reduceAdd, Nat.reduceLeDiff, intBin, strBin, unD, extractD, lit1, lit2, lit3, keptD, boxR, D.one, D.pub1, D.cells, splice, cutOwn]
      refine Fn.useP (Words_c [t[k].From, t[k].To]) rfl ?_
      rw [words2]
      cases c1 : (rowE t[k] != 0)
      · simp -dsimp only [h3, h0, encT, encSS, hlt, hd, hpos, hbig, c1, ↓preB, postB, genB, ↓reduceIte, Nat.reduceEqDiff, Int.reduceToNat, Int.reduceLE, Int.reduceLT, Nat.reduceAdd, Nat.reduceLeDiff, intBin, strBin, unD, extractD, lit1, lit2, lit3, keptD, boxR, D.one, D.pub1, D.cells, splice, cutOwn]
        rw [c1] at hp
        exact ⟨k + 1, ⟨by omega, by simpa using hp, wrap64_succ (by omega)⟩, by omega⟩
      · simp -dsimp only [h3, h0, encT, encSS, hlt, hd, hpos, hbig, c1, ↓preB, postB, genB, ↓reduceIte, Nat.reduceEqDiff, Int.reduceToNat, Int.reduceLE, Int.reduceLT, Nat.reduceAdd, Nat.reduceLeDiff, intBin, strBin, unD, extractD, lit1, lit2, lit3, keptD, boxR, D.one, D.pub1, D.cells, splice, cutOwn]
        rw [c1] at hp
        simp only [if_true] at hp
        exact Ret.is (by rw [badT, if_neg (by omega), ← hp, c1]; rfl)
    · simp -dsimp only [h3, h0, encT, Nat.not_lt.2 hge, hbig, ↓preB, postB, genB, ↓reduceIte, Nat.reduceEqDiff, Int.reduceToNat, Int.reduceLE, Int.reduceLT, Nat.reduceAdd, Nat.reduceLeDiff, intBin, strBin, unD, extractD, lit1, lit2, lit3, keptD, boxR, D.one, D.pub1, D.cells, splice, cutOwn]
      have hfe : firstE t = 0 := by rw [← hp, List.drop_of_length_le hge]; rfl
      refine pwp_loopG (fun k env s' => k ≤ t.length ∧ ordBad (prevF t k) (t.drop k) = ordBad none t ∧ s' = s ∧ env 5 = .int .i64 (k:Nat) ∧ env 0 = encT t) (fun k => t.length - k) 0 ?_ ?_
      · simp [upd_apply, envOf_apply, encT, h0, prevF]
      · rintro k env s ⟨hk, hp, rfl, h5, h0⟩
        rcases Nat.lt_or_ge k t.length with hlt | hge
        · have hd := rowsD_at hlt
          have hpos : 0 < (rowsD t).length := by rw [rowsD_len]; omega
          rw [List.drop_eq_getElem_cons hlt, ordBad, ← prevF_next hlt] at hp
          simp -dsimp only [h5, h0, encT, hlt, hd, hpos, hbig, ↓preB, postB, genB, ↓reduceIte, Nat.reduceEqDiff, Int.reduceToNat, Int.reduceLE, Int.reduceLT, Nat.reduceAdd, Nat.reduceLeDiff, intBin, strBin, unD, extractD, lit1, lit2, lit3, keptD, boxR, D.one, D.pub1, D.cells, splice, cutOwn]
          refine draw_s ?_
          have hdone : badO (prevF t k) t[k] = true → badT t = 1 := fun hb => by
            rw [hb, Bool.true_or] at hp
            rw [badT, if_neg (by omega), hfe, ← hp]; rfl
          have hgo : badO (prevF t k) t[k] = false → ordBad (prevF t (k + 1)) (t.drop (k + 1)) = ordBad none t := fun hb => by
            rw [hb, Bool.false_or] at hp; exact hp
          have c1n : ((t[k].From.length : Int) == 0) = (t[k].From.length == 0) := by
            rw [Bool.eq_iff_iff]; simp
          cases c1 : (t[k].From.length == 0)
          · by_cases ck : k = 0
            · have ckn : ¬ (0 : Int) < k := by omega
              simp -dsimp only [h5, h0, encT, encSS, hlt, hd, hpos, hbig, c1n, c1, ckn, ↓preB, postB, genB, ↓reduceIte, Nat.reduceEqDiff, Int.reduceToNat, Int.reduceLE, Int.reduceLT, Nat.reduceAdd, Nat.reduceLeDiff, intBin, strBin, unD, extractD, lit1, lit2, lit3, keptD, boxR, D.one, D.pub1, D.cells, splice, cutOwn]
              have hb : badO (prevF t k) t[k] = false := by simp [badO, prevF, c1, if_pos ck]
              exact ⟨k + 1, ⟨by omega, hgo hb, wrap64_succ (by omega)⟩, by omega⟩
            · have ckp : (0 : Int) < k := by omega
              have hw : IntKind.i64.wrap ((k : Int) - 1) = ((k - 1 : Nat) : Int) := wrap64_pred (by omega) (by omega)
              have hlt' : k - 1 < t.length := by omega
              have hd' := rowsD_at hlt'
              simp -dsimp only [h5, h0, encT, encSS, hlt, hlt', hd, hd', hpos, hbig, c1n, c1, ckp, hw, ↓preB, postB, genB, ↓reduceIte, Nat.reduceEqDiff, Int.reduceToNat, Int.reduceLE, Int.reduceLT, Nat.reduceAdd, Nat.reduceLeDiff, intBin, strBin, unD, extractD, lit1, lit2, lit3, keptD, boxR, D.one, D.pub1, D.cells, splice, cutOwn]
              refine Fn.useS (Order_c _ _) ?_
              have hb := badO_prev hlt ck
              rw [c1, Bool.false_or] at hb
              by_cases c2 : 0 ≤ ordW (t[k-1]'hlt').From t[k].From
              · simp -dsimp only [h5, h0, encT, encSS, hlt, hlt', hd, hd', hpos, hbig, c1n, c1, ckp, hw, c2, ↓preB, postB, genB, ↓reduceIte, Nat.reduceEqDiff, Int.reduceToNat, Int.reduceLE, Int.reduceLT, Nat.reduceAdd, Nat.reduceLeDiff, intBin, strBin, unD, extractD, lit1, lit2, lit3, keptD, boxR, D.one, D.pub1, D.cells, splice, cutOwn]
                exact Ret.is (by rw [hdone (by rw [hb]; simpa using c2)])
              · simp -dsimp only [h5, h0, encT, encSS, hlt, hlt', hd, hd', hpos, hbig, c1n, c1, ckp, hw, c2, ↓preB, postB, genB, ↓reduceIte, Nat.reduceEqDiff, Int.reduceToNat, Int.reduceLE, Int.reduceLT, Nat.reduceAdd, Nat.reduceLeDiff, intBin, strBin, unD, extractD, lit1, lit2, lit3, keptD, boxR, D.one, D.pub1, D.cells, splice, cutOwn]
                exact ⟨k + 1, ⟨by omega, hgo (by rw [hb]; simpa using c2), wrap64_succ (by omega)⟩, by omega⟩
          · simp -dsimp only [h5, h0, encT, encSS, hlt, hd, hpos, hbig, c1n, c1, ↓preB, postB, genB, ↓reduceIte, Nat.reduceEqDiff, Int.reduceToNat, Int.reduceLE, Int.reduceLT, Nat.reduceAdd, Nat.reduceLeDiff, intBin, strBin, unD, extractD, lit1, lit2, lit3, keptD, boxR, D.one, D.pub1, D.cells, splice, cutOwn]
            exact Ret.is (by rw [hdone (by simp only [badO, c1, Bool.true_or])])
        · simp -dsimp only [h5, h0, encT, Nat.not_lt.2 hge, hbig, ↓preB, postB, genB, ↓reduceIte, Nat.reduceEqDiff, Int.reduceToNat, Int.reduceLE, Int.reduceLT, Nat.reduceAdd, Nat.reduceLeDiff, intBin, strBin, unD, extractD, lit1, lit2, lit3, keptD, boxR, D.one, D.pub1, D.cells, splice, cutOwn]
          refine Ret.is ?_
          rw [badT, if_neg (by omega), hfe, ← hp, List.drop_of_length_le hge]; rfl
end Go.Proofs.YtldlcejlfaogbaaDoor.Vs
