/- Why it is not asked whether a table is reversible. -/
import Derived.Test.YtldlcejlfaogbaaGreatDoorFnI
namespace Go.Proofs.YtldlcejlfaogbaaGreatDoor.Vs
set_option linter.unusedVariables false
set_option linter.unusedSimpArgs false
set_option maxRecDepth 20000
def encR (r : Sh) : D := .agg [encSS r.From, encSS r.To]
theorem idxOf_none {α : Type} {p : α → Bool} {w : List α} (h : ∀ j (hj : j < w.length), p w[j] = false) : idxOf p w = -1 := by
  have : w.findIdx? p = none := by
    rw [List.findIdx?_eq_none_iff]
    intro x hx
    obtain ⟨j, hj, rfl⟩ := List.getElem_of_mem hx
    exact h j hj
  simp [idxOf, this]
theorem idxOf_at {α : Type} {p : α → Bool} {w : List α} {k : Nat} (hk : k < w.length) (hq : p w[k] = true) (h : ∀ j (hj : j < w.length), j < k → p w[j] = false) : idxOf p w = k := by
  have : w.findIdx? p = some k := by
    rw [List.findIdx?_eq_some_iff_getElem]
    exact ⟨hk, hq, fun j hj => by simp [h j (by omega) hj]⟩
  simp [idxOf, this]

theorem indexSh_p (t : List Sh) (p : Sh → Bool) (g : FuncId) (caps : List D) {σ : Heap} (hp : ∀ x ∈ t, PCall Zs g (encR x :: caps) σ (fun d τ => d = .bool (p x) ∧ τ = σ)) :
    PCall Zs 129 [encT t, .func g caps] σ (fun d τ => d = .int .i64 (idxOf p t) ∧ τ = σ) := by
  refine pcall_of (Z := Zs) ok129 fun hcl hbl => ?_
  simp -dsimp only [L129, encT, ↓preB, postB, genB, ↓reduceIte, Nat.reduceEqDiff, Int.reduceToNat, Int.reduceLE, Int.reduceLT, Nat.reduceAdd, Nat.reduceLeDiff, intBin, strBin, unD, extractD, lit1, lit2, lit3, keptD, boxR, D.one, D.pub1, D.cells, splice, cutOwn]
  intro hbig
  refine pwp_loopG (fun k env s => k ≤ t.length ∧ (∀ j (h : j < t.length), j < k → p t[j] = false) ∧ s = σ ∧ env 8 = .int .i64 (k:Nat) ∧ env 7 = .int .i64 t.length ∧ env 0 = encT t ∧ env 1 = .func g caps) (fun k => t.length - k) 0 ?_ ?_
  · simp [upd_apply, envOf_apply, encT]
  · rintro k env s ⟨hk, hp', rfl, h8, h7, h0, h1⟩
    rcases Nat.lt_or_ge k t.length with hlt | hge
    · have hd := rowsD_at hlt
      have hpos : 0 < (rowsD t).length := by rw [rowsD_len]; omega
      simp -dsimp only [h8, h7, h0, h1, encT, hlt, hd, hpos, ↓preB, postB, genB, ↓reduceIte, Nat.reduceEqDiff, Int.reduceToNat, Int.reduceLE, Int.reduceLT, Nat.reduceAdd, Nat.reduceLeDiff, intBin, strBin, unD, extractD, lit1, lit2, lit3, keptD, boxR, D.one, D.pub1, D.cells, splice, cutOwn]
      refine PCall.use (hp _ (List.getElem_mem hlt)) ?_
      rintro d τ ⟨rfl, rfl⟩
      cases hq : p t[k] <;> simp -dsimp only [h8, h7, h0, h1, hq, encT, hlt, hd, hpos, ↓preB, postB, genB, ↓reduceIte, Nat.reduceEqDiff, Int.reduceToNat, Int.reduceLE, Int.reduceLT, Nat.reduceAdd, Nat.reduceLeDiff, intBin, strBin, unD, extractD, lit1, lit2, lit3, keptD, boxR, D.one, D.pub1, D.cells, splice, cutOwn]
      · refine ⟨k + 1, ⟨by omega, fun j hj hjk => ?_, wrap64_succ (by omega)⟩, by omega⟩
        rcases Nat.lt_succ_iff_lt_or_eq.1 hjk with h | rfl
        · exact hp' j hj h
        · exact hq
      · exact Ret.is (by rw [idxOf_at hlt hq hp'])
    · simp -dsimp only [h8, h7, h0, h1, encT, Nat.not_lt.2 hge, ↓preB, postB, genB, ↓reduceIte, Nat.reduceEqDiff, Int.reduceToNat, Int.reduceLE, Int.reduceLT, Nat.reduceAdd, Nat.reduceLeDiff, intBin, strBin, unD, extractD, lit1, lit2, lit3, keptD, boxR, D.one, D.pub1, D.cells, splice, cutOwn]
      exact Ret.is (by rw [idxOf_none (fun j hj => hp' j hj (by omega))])

theorem containsSh_p (t : List Sh) (p : Sh → Bool) (g : FuncId) (caps : List D) {σ : Heap} (hp : ∀ x ∈ t, PCall Zs g (encR x :: caps) σ (fun d τ => d = .bool (p x) ∧ τ = σ)) :
    PCall Zs 77 [encT t, .func g caps] σ (fun d τ => d = .bool (t.any p) ∧ τ = σ) := by
  refine pcall_of (Z := Zs) ok77 fun hcl hbl => ?_
  simp -dsimp only [L77, ↓preB, postB, genB, ↓reduceIte, Nat.reduceEqDiff, Int.reduceToNat, Int.reduceLE, Int.reduceLT, Nat.reduceAdd, Nat.reduceLeDiff, intBin, strBin, unD, extractD, lit1, lit2, lit3, keptD, boxR, D.one, D.pub1, D.cells, splice, cutOwn]
  refine PCall.use (indexSh_p t p g caps hp) ?_
  rintro d τ ⟨rfl, rfl⟩
  simp -dsimp only [↓preB, postB, genB, ↓reduceIte, Nat.reduceEqDiff, Int.reduceToNat, Int.reduceLE, Int.reduceLT, Nat.reduceAdd, Nat.reduceLeDiff, intBin, strBin, unD, extractD, lit1, lit2, lit3, keptD, boxR, D.one, D.pub1, D.cells, splice, cutOwn]
  exact Ret.is (by rw [← idxOf_any])
theorem containsSh_c (t : List Sh) (p : Sh → Bool) (g : FuncId) (caps : List D) (hp : ∀ x ∈ t, Fn Zs g (encR x :: caps) (.bool (p x))) :
    Fn Zs 77 [encT t, .func g caps] (.bool (t.any p)) := fun σ => containsSh_p t p g caps fun x hx => hp x hx σ
theorem notOne_c (r : Sh) : Fn Zs 108 [encR r] (.bool ((r.From.length : Int) != 1)) := by
  refine fn_of (Z := Zs) ok108 fun σ hcl hbl => ?_
  simp -dsimp only [L108, encR, encSS, ↓preB, postB, genB, ↓reduceIte, Nat.reduceEqDiff, Int.reduceToNat, Int.reduceLE, Int.reduceLT, Nat.reduceAdd, Nat.reduceLeDiff, intBin, strBin, unD, extractD, lit1, lit2, lit3, keptD, boxR, D.one, D.pub1, D.cells, splice, cutOwn]
  intro
  exact Ret.isH (HLe.self_new _ hcl) hcl rfl (.bool _)
theorem longTo_c (r : Sh) : Fn Zs 110 [encR r] (.bool (decide ((8 : Int) < r.To.length))) := by
  refine fn_of (Z := Zs) ok110 fun σ hcl hbl => ?_
  simp -dsimp only [L110, encR, encSS, ↓preB, postB, genB, ↓reduceIte, Nat.reduceEqDiff, Int.reduceToNat, Int.reduceLE, Int.reduceLT, Nat.reduceAdd, Nat.reduceLeDiff, intBin, strBin, unD, extractD, lit1, lit2, lit3, keptD, boxR, D.one, D.pub1, D.cells, splice, cutOwn]
  intro
  exact Ret.isH (HLe.self_new _ hcl) hcl rfl (.bool _)
def plainT (t : List Sh) : Bool := !(t.any fun r => (r.From.length : Int) != 1)
def askE (t : List Sh) : Int := if plainT t then (if t.any (fun r => decide ((8 : Int) < r.To.length)) then 3 else 0) else 7
theorem plain_c (t : List Sh) : Fn Zs 56 [encT t] (.bool (plainT t)) := by
  refine fn_of (Z := Zs) ok56 fun σ hcl hbl => ?_
  simp -dsimp only [L56, ↓preB, postB, genB, ↓reduceIte, Nat.reduceEqDiff, Int.reduceToNat, Int.reduceLE, Int.reduceLT, Nat.reduceAdd, Nat.reduceLeDiff, intBin, strBin, unD, extractD, lit1, lit2, lit3, keptD, boxR, D.one, D.pub1, D.cells, splice, cutOwn]
  refine Fn.use (containsSh_c t _ 108 [] (fun x _ => notOne_c x)) ?_
  simp -dsimp only [↓preB, postB, genB, ↓reduceIte, Nat.reduceEqDiff, Int.reduceToNat, Int.reduceLE, Int.reduceLT, Nat.reduceAdd, Nat.reduceLeDiff, intBin, strBin, unD, extractD, lit1, lit2, lit3, keptD, boxR, D.one, D.pub1, D.cells, splice, cutOwn]
  exact Ret.is rfl
theorem asked_c (t : List Sh) : Fn Zs 58 [encT t] (.int .i64 (askE t)) := by
  refine fn_of (Z := Zs) ok58 fun σ hcl hbl => ?_
  simp -dsimp only [L58, ↓preB, postB, genB, ↓reduceIte, Nat.reduceEqDiff, Int.reduceToNat, Int.reduceLE, Int.reduceLT, Nat.reduceAdd, Nat.reduceLeDiff, intBin, strBin, unD, extractD, lit1, lit2, lit3, keptD, boxR, D.one, D.pub1, D.cells, splice, cutOwn]
  refine Fn.use (plain_c t) ?_
  cases c : plainT t
  · simp -dsimp only [c, ↓preB, postB, genB, ↓reduceIte, Nat.reduceEqDiff, Int.reduceToNat, Int.reduceLE, Int.reduceLT, Nat.reduceAdd, Nat.reduceLeDiff, intBin, strBin, unD, extractD, lit1, lit2, lit3, keptD, boxR, D.one, D.pub1, D.cells, splice, cutOwn]
    exact Ret.is (by simp only [askE, c]; rfl)
  · simp -dsimp only [c, ↓preB, postB, genB, ↓reduceIte, Nat.reduceEqDiff, Int.reduceToNat, Int.reduceLE, Int.reduceLT, Nat.reduceAdd, Nat.reduceLeDiff, intBin, strBin, unD, extractD, lit1, lit2, lit3, keptD, boxR, D.one, D.pub1, D.cells, splice, cutOwn]
    refine Fn.use (containsSh_c t _ 110 [] (fun x _ => longTo_c x)) ?_
    cases c2 : t.any (fun r => decide ((8 : Int) < r.To.length)) <;> simp -dsimp only [c, c2, ↓preB, postB, genB, ↓reduceIte, Nat.reduceEqDiff, Int.reduceToNat, Int.reduceLE, Int.reduceLT, Nat.reduceAdd, Nat.reduceLeDiff, intBin, strBin, unD, extractD, lit1, lit2, lit3, keptD, boxR, D.one, D.pub1, D.cells, splice, cutOwn]
    · exact Ret.is (by simp only [askE, c, c2]; rfl)
    · exact Ret.is (by simp only [askE, c, c2]; rfl)

end Go.Proofs.YtldlcejlfaogbaaGreatDoor.Vs
