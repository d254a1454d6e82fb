/- Lists of words looked through; the errors of Code; rows of numbers compared and joined. -/
import Derived.Test.YtldlcejlfaogbaaGreatDoorFnI
namespace Go.Proofs.YtldlcejlfaogbaaGreatDoor.Vs
set_option linter.unusedVariables false
set_option linter.unusedSimpArgs false
set_option maxRecDepth 20000
theorem indexLL_c (w : List Wd) (p : Wd → Bool) (g : FuncId) (caps : List D) (hp : ∀ x ∈ w, Fn Zs g (encSS x :: caps) (.bool (p x))) :
    Fn Zs 117 [encLL w, .func g caps] (.int .i64 (idxOf p w)) := by
  refine fn_of (Z := Zs) ok117 fun σ hcl hbl => ?_
  simp -dsimp only [L117, encLL, ↓preB, postB, genB, ↓reduceIte, Nat.reduceEqDiff, Int.reduceToNat, Int.reduceLE, Int.reduceLT, Nat.reduceAdd, Nat.reduceLeDiff, intBin, strBin, unD, extractD, lit1, lit2, lit3, keptD, boxR, D.one, D.pub1, D.cells, splice, cutOwn]
  intro hbig
  refine pwp_loopG (fun k env s => k ≤ w.length ∧ (∀ j (h : j < w.length), j < k → p w[j] = false) ∧ s = σ ∧ env 8 = .int .i64 (k:Nat) ∧ env 7 = .int .i64 w.length ∧ env 0 = encLL w ∧ env 1 = .func g caps) (fun k => w.length - k) 0 ?_ ?_
  · simp [upd_apply, envOf, encLL]
  · rintro k env s ⟨hk, hp', rfl, h8, h7, h0, h1⟩
    rcases Nat.lt_or_ge k w.length with hlt | hge
    · have hx : w[k]? = some w[k] := List.getElem?_eq_getElem hlt
      simp -dsimp only [h8, h7, h0, h1, encLL, hlt, hx, ↓preB, postB, genB, ↓reduceIte, Nat.reduceEqDiff, Int.reduceToNat, Int.reduceLE, Int.reduceLT, Nat.reduceAdd, Nat.reduceLeDiff, intBin, strBin, unD, extractD, lit1, lit2, lit3, keptD, boxR, D.one, D.pub1, D.cells, splice, cutOwn]
      refine ⟨by omega, Fn.use (hp _ (List.getElem_mem hlt)) ?_⟩
      cases hq : p w[k] <;> simp -dsimp only [h8, h7, h0, h1, hq, ↓preB, postB, genB, ↓reduceIte, Nat.reduceEqDiff, Int.reduceToNat, Int.reduceLE, Int.reduceLT, Nat.reduceAdd, Nat.reduceLeDiff, intBin, strBin, unD, extractD, lit1, lit2, lit3, keptD, boxR, D.one, D.pub1, D.cells, splice, cutOwn]
      · refine ⟨k + 1, ⟨by omega, fun j hj hjk => ?_, wrap64_succ (by omega)⟩, by omega⟩
        rcases Nat.lt_succ_iff_lt_or_eq.1 hjk with h | rfl
        · exact hp' j hj h
        · exact hq
      · refine Ret.is ?_
        have : w.findIdx? p = some k := by
          rw [List.findIdx?_eq_some_iff_getElem]
          exact ⟨hlt, hq, fun j hj => by simp [hp' j (by omega) hj]⟩
        simp [idxOf, this]
    · simp -dsimp only [h8, h7, h0, h1, encLL, Nat.not_lt.2 hge, ↓preB, postB, genB, ↓reduceIte, Nat.reduceEqDiff, Int.reduceToNat, Int.reduceLE, Int.reduceLT, Nat.reduceAdd, Nat.reduceLeDiff, intBin, strBin, unD, extractD, lit1, lit2, lit3, keptD, boxR, D.one, D.pub1, D.cells, splice, cutOwn]
      refine Ret.is ?_
      have : w.findIdx? p = none := by
        rw [List.findIdx?_eq_none_iff]
        intro x hx
        obtain ⟨j, hj, rfl⟩ := List.getElem_of_mem hx
        exact hp' j hj (by omega)
      simp [idxOf, this]

def long8 (w : Wd) : Bool := decide (8 < w.length)
def noneIn (w : Wd) : Bool := w.length == 0
theorem noneIn_c (w : Wd) : Fn Zs 118 [encSS w] (.bool (noneIn w)) := by
  refine fn_of (Z := Zs) ok118 fun σ hcl hbl => ?_
  simp -dsimp only [L118, encSS, ↓preB, postB, genB, ↓reduceIte, Nat.reduceEqDiff, Int.reduceToNat, Int.reduceLE, Int.reduceLT, Nat.reduceAdd, Nat.reduceLeDiff, intBin, strBin, unD, extractD, lit1, lit2, lit3, keptD, boxR, D.one, D.pub1, D.cells, splice, cutOwn]
  intro hb
  exact Ret.is (by rw [noneIn]; congr 1; rw [Bool.eq_iff_iff]; simp)

theorem isLong8_c (l : List Wd) : Fn Zs 116 [encLL l] (.bool (l.any long8)) := by
  refine fn_of (Z := Zs) ok116 fun σ hcl hbl => ?_
  simp -dsimp only [L116, encLL, ↓preB, postB, genB, ↓reduceIte, Nat.reduceEqDiff, Int.reduceToNat, Int.reduceLE, Int.reduceLT, Nat.reduceAdd, Nat.reduceLeDiff, intBin, strBin, unD, extractD, lit1, lit2, lit3, keptD, boxR, D.one, D.pub1, D.cells, splice, cutOwn]
  refine pwp_loopG (fun k env s => k ≤ l.length ∧ (∀ j (h : j < l.length), j < k → long8 l[j] = false) ∧ s = σ ∧ env 3 = .int .i64 (k:Nat) ∧ env 0 = encLL l) (fun k => l.length - k) 0 ?_ ?_
  · simp [upd_apply, envOf, encLL]
  · rintro k env s ⟨hk, hp, rfl, h3, h0⟩
    rcases Nat.lt_or_ge k l.length with hlt | hge
    · have hx : l[k]? = some l[k] := List.getElem?_eq_getElem hlt
      by_cases c1 : (8 : Int) < (l[k]).length
      · have hq : long8 l[k] = true := by simp [long8]; omega
        simp -dsimp only [h3, h0, encLL, encSS, hlt, hx, c1, ↓preB, postB, genB, ↓reduceIte, Nat.reduceEqDiff, Int.reduceToNat, Int.reduceLE, Int.reduceLT, Nat.reduceAdd, Nat.reduceLeDiff, intBin, strBin, unD, extractD, lit1, lit2, lit3, keptD, boxR, D.one, D.pub1, D.cells, splice, cutOwn]
        intros
        refine ⟨by omega, fun _ => Ret.is ?_⟩
        have : l.any long8 = true := List.any_eq_true.2 ⟨_, List.getElem_mem hlt, hq⟩
        rw [this]
      · have hq : long8 l[k] = false := by simp [long8]; omega
        simp -dsimp only [h3, h0, encLL, encSS, hlt, hx, c1, ↓preB, postB, genB, ↓reduceIte, Nat.reduceEqDiff, Int.reduceToNat, Int.reduceLE, Int.reduceLT, Nat.reduceAdd, Nat.reduceLeDiff, intBin, strBin, unD, extractD, lit1, lit2, lit3, keptD, boxR, D.one, D.pub1, D.cells, splice, cutOwn]
        intros
        refine ⟨by omega, fun _ => ⟨k + 1, ⟨by omega, fun j hj hjk => ?_, wrap64_succ (by omega)⟩, by omega⟩⟩
        rcases Nat.lt_succ_iff_lt_or_eq.1 hjk with h | rfl
        · exact hp j hj h
        · exact hq
    · simp -dsimp only [h3, h0, encLL, Nat.not_lt.2 hge, ↓preB, postB, genB, ↓reduceIte, Nat.reduceEqDiff, Int.reduceToNat, Int.reduceLE, Int.reduceLT, Nat.reduceAdd, Nat.reduceLeDiff, intBin, strBin, unD, extractD, lit1, lit2, lit3, keptD, boxR, D.one, D.pub1, D.cells, splice, cutOwn]
      intros
      refine Ret.is ?_
      have : l.any long8 = false := by
        rw [List.any_eq_false]
        intro x hx
        obtain ⟨j, hj, rfl⟩ := List.getElem_of_mem hx
        simp [hp j hj (by omega)]
      rw [this]

end Go.Proofs.YtldlcejlfaogbaaGreatDoor.Vs
