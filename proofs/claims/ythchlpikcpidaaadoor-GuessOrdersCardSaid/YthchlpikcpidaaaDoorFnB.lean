/- What the functions on words, one against another, come to. -/
import Derived.Test.YthchlpikcpidaaaDoorFnA
namespace Go.Proofs.YthchlpikcpidaaaDoor.Vs
set_option linter.unusedVariables false
set_option linter.unusedSimpArgs false
set_option maxRecDepth 20000
def ordW : Wd → Wd → Int
  | [], [] => 0
  | [], _ :: _ => -1
  | _ :: _, [] => 1
  | x :: a, y :: b => if strLt x y then -1 else if x == y then ordW a b else 1
def eqW : Wd → Wd → Bool
  | [], [] => true
  | x :: a, y :: b => (x == y) && eqW a b
  | _, _ => false
def encLL (l : List Wd) : D := .sl .no l.length (l.map encSS)

theorem ba_refl (a : ByteArray) : (a == a) = true := by
  cases a with
  | mk a => exact (beq_self_eq_true a : (a == a) = true)
theorem eqW_iff : ∀ {a b : Wd}, eqW a b = true ↔ a = b
  | [], [] => by simp [eqW]
  | [], _ :: _ => by simp [eqW]
  | _ :: _, [] => by simp [eqW]
  | x :: a, y :: b => by
    simp only [eqW, Bool.and_eq_true, List.cons.injEq, eqW_iff (a := a) (b := b)]
    exact ⟨fun h => ⟨ba_eq h.1, h.2⟩, fun h => ⟨by rw [h.1]; exact ba_refl y, h.2⟩⟩

def cmpS (x y : ByteArray) : Int := if strLt x y then -1 else if x == y then 0 else 1
theorem ordW_cons {x y : ByteArray} {a b : Wd} : ordW (x :: a) (y :: b) = if cmpS x y = 0 then ordW a b else cmpS x y := by
  unfold cmpS
  simp only [ordW]
  cases strLt x y <;> cases (x == y) <;> simp

theorem Order_c (a b : Wd) : Fn Zs 29 [encSS a, encSS b] (.int .i64 (ordW a b)) := by
  refine fn_of (Z := Zs) ok29 fun σ hcl hbl => ?_
  simp -dsimp only [L29, encSS, ↓preB, postB, genB, ↓reduceIte, Nat.reduceEqDiff, Int.reduceToNat, Int.reduceLE, Int.reduceLT, Nat.reduceAdd, Nat.reduceLeDiff, intBin, strBin, unD, extractD, lit1, lit2, lit3, keptD, boxR, D.one, D.pub1, D.cells, splice, cutOwn]
  refine pwp_loopG (fun k env s => k ≤ a.length ∧ k ≤ b.length ∧ ordW (a.drop k) (b.drop k) = ordW a b ∧ s = σ ∧ env 5 = .int .i64 (k:Nat) ∧ env 0 = encSS a ∧ env 1 = encSS b) (fun k => a.length - k) 0 ?_ ?_
  · simp [upd_apply, envOf, encSS]
  · rintro k env s ⟨hk, hk', hp, rfl, h5, h0, h1⟩
    rcases Nat.lt_or_ge k a.length with hlt | hge
    · rcases Nat.lt_or_ge k b.length with hlt' | hge'
      · have hx : a[k]? = some a[k] := List.getElem?_eq_getElem hlt
        have hy : b[k]? = some b[k] := List.getElem?_eq_getElem hlt'
        rw [List.drop_eq_getElem_cons hlt, List.drop_eq_getElem_cons hlt', ordW_cons] at hp
        simp -dsimp only [h5, h0, h1, encSS, hlt, hlt', ↓preB, postB, genB, ↓reduceIte, Nat.reduceEqDiff, Int.reduceToNat, Int.reduceLE, Int.reduceLT, Nat.reduceAdd, Nat.reduceLeDiff, intBin, strBin, unD, extractD, lit1, lit2, lit3, keptD, boxR, D.one, D.pub1, D.cells, splice, cutOwn]
        intro hb1 hb2
        refine draw_s ?_
        cases c1 : strLt a[k] b[k]
        · simp -dsimp only [h5, h0, h1, encSS, hlt, hlt', hx, hy, c1, ↓preB, postB, genB, ↓reduceIte, Nat.reduceEqDiff, Int.reduceToNat, Int.reduceLE, Int.reduceLT, Nat.reduceAdd, Nat.reduceLeDiff, intBin, strBin, unD, extractD, lit1, lit2, lit3, keptD, boxR, D.one, D.pub1, D.cells, splice, cutOwn]
          refine ⟨by omega, by omega, draw_s ?_⟩
          cases c2 : (a[k] == b[k])
          · simp -dsimp only [h5, h0, h1, encSS, hlt, hlt', hx, hy, c1, c2, Bool.or_false, ↓preB, postB, genB, ↓reduceIte, Nat.reduceEqDiff, Int.reduceToNat, Int.reduceLE, Int.reduceLT, Nat.reduceAdd, Nat.reduceLeDiff, intBin, strBin, unD, extractD, lit1, lit2, lit3, keptD, boxR, D.one, D.pub1, D.cells, splice, cutOwn]
            exact ⟨by omega, by omega, Ret.is (by rw [← hp]; simp [cmpS, c1, c2])⟩
          · simp -dsimp only [h5, h0, h1, encSS, hlt, hlt', hx, hy, c1, c2, Bool.or_true, ↓preB, postB, genB, ↓reduceIte, Nat.reduceEqDiff, Int.reduceToNat, Int.reduceLE, Int.reduceLT, Nat.reduceAdd, Nat.reduceLeDiff, intBin, strBin, unD, extractD, lit1, lit2, lit3, keptD, boxR, D.one, D.pub1, D.cells, splice, cutOwn]
            refine ⟨by omega, by omega, k + 1, ⟨by omega, by omega, ?_, wrap64_succ (by omega)⟩, by omega⟩
            rw [← hp]; simp [cmpS, c1, c2]
        · simp -dsimp only [h5, h0, h1, encSS, hlt, hlt', hx, hy, c1, ↓preB, postB, genB, ↓reduceIte, Nat.reduceEqDiff, Int.reduceToNat, Int.reduceLE, Int.reduceLT, Nat.reduceAdd, Nat.reduceLeDiff, intBin, strBin, unD, extractD, lit1, lit2, lit3, keptD, boxR, D.one, D.pub1, D.cells, splice, cutOwn]
          exact ⟨by omega, by omega, Ret.is (by rw [← hp]; simp [cmpS, c1])⟩
      · have hl : b.length < a.length := by omega
        have hl2 : ¬ a.length < b.length := by omega
        simp -dsimp only [h5, h0, h1, encSS, hlt, Nat.not_lt.2 hge', hl, hl2, ↓preB, postB, genB, ↓reduceIte, Nat.reduceEqDiff, Int.reduceToNat, Int.reduceLE, Int.reduceLT, Nat.reduceAdd, Nat.reduceLeDiff, intBin, strBin, unD, extractD, lit1, lit2, lit3, keptD, boxR, D.one, D.pub1, D.cells, splice, cutOwn]
        intros
        refine Ret.is ?_
        rw [← hp, List.drop_of_length_le hge', List.drop_eq_getElem_cons hlt]; rfl
    · by_cases hl : a.length < b.length
      · simp -dsimp only [h5, h0, h1, encSS, Nat.not_lt.2 hge, hl, ↓preB, postB, genB, ↓reduceIte, Nat.reduceEqDiff, Int.reduceToNat, Int.reduceLE, Int.reduceLT, Nat.reduceAdd, Nat.reduceLeDiff, intBin, strBin, unD, extractD, lit1, lit2, lit3, keptD, boxR, D.one, D.pub1, D.cells, splice, cutOwn]
        intros
        refine Ret.is ?_
        rw [← hp, List.drop_of_length_le hge, List.drop_eq_getElem_cons (by omega : k < b.length)]; rfl
      · have hl2 : ¬ b.length < a.length := by omega
        simp -dsimp only [h5, h0, h1, encSS, Nat.not_lt.2 hge, hl, hl2, ↓preB, postB, genB, ↓reduceIte, Nat.reduceEqDiff, Int.reduceToNat, Int.reduceLE, Int.reduceLT, Nat.reduceAdd, Nat.reduceLeDiff, intBin, strBin, unD, extractD, lit1, lit2, lit3, keptD, boxR, D.one, D.pub1, D.cells, splice, cutOwn]
        intros
        refine Ret.is ?_
        rw [← hp, List.drop_of_length_le hge, List.drop_of_length_le (by omega)]; rfl
end Go.Proofs.YthchlpikcpidaaaDoor.Vs
