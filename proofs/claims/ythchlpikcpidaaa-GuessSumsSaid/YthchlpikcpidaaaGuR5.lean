/- numbers of Ythchlpikcpidaaa -/
import Derived.Test.YthchlpikcpidaaaGuR2
import Derived.Test.YthchlpikcpidaaaGuS1
namespace Go.Proofs.Ythchlpikcpidaaa.Vs
set_option linter.unusedVariables false
set_option linter.unusedSimpArgs false
set_option maxRecDepth 100000
theorem cnt_tag {R : List Smp} (hm : ∀ x ∈ R, 1 ≤ x.many) {t : ByteArray} (ht : t ≠ noB) : cnt R [] t ≠ 0 ↔ t ∈ tagL R := by
  have htb : (t == noB) = false := by
    cases h : (t == noB) with
    | false => rfl
    | true => exact absurd (ba_eq h) ht
  induction R with
  | nil => simp [cnt, tagL]
  | cons x R ih =>
    have ih := ih fun y hy => hm y (List.mem_cons_of_mem _ hy)
    have h1 := hm x List.mem_cons_self
    have h2 : 0 ≤ cnt R [] t := cnt_nonneg _ _ fun y hy => hm y (List.mem_cons_of_mem _ hy)
    have ho : one [] t x = if (t == x.tag) = true then x.many else 0 := by simp only [one, hit, isEnd_nil, htb, Bool.false_or, Bool.true_and]
    simp only [cnt, tagL, List.map_cons, List.mem_cons]
    rw [ho]
    cases hx : (t == x.tag) with
    | true =>
      have e := ba_eq hx
      simp only [if_true]
      exact ⟨fun _ => .inl e, fun _ => by omega⟩
    | false =>
      simp only [Bool.false_eq_true, if_false, Int.zero_add]
      exact ⟨fun h => .inr (ih.1 h), fun h => h.elim (fun e => by rw [e, ba_refl] at hx; cases hx) ih.2⟩
section
variable {l : List Smp} (hl : ∀ x ∈ l, fineS x) (ht : tot l ≤ 1000)
include hl
include ht
end
def denT (cf : CF) (w : Wd) (t : ByteArray) : Int := (chV (aF cf t) (aF cf noB) w).2
theorem Rank0_c (w : Wd) : Fn Zs 16 [.nilptr, encSS w] (.tup [.sl .nil 0 [], .int .i64 (if badW w ≠ 0 then badW w else 4)]) := by
  refine fn_of (Z := Zs) ok16 fun σ hcl hbl => ?_
  simp -dsimp only [L16, ↓preB, postB, genB, ↓reduceIte, Nat.reduceEqDiff, Int.reduceToNat, Int.reduceLE, Int.reduceLT, Nat.reduceAdd, Nat.reduceLeDiff, intBin, strBin, unD, extractD, lit1, lit2, lit3, keptD, boxR, D.one, D.pub1, D.cells, splice, cutOwn]
  have h3 : (σ.new (.cells 23 [encSS w])).get σ.next = some (.cells 23 [encSS w]) := Heap.new_same _ _
  simp -dsimp only [h3, encSS, ↓preB, postB, genB, ↓reduceIte, Nat.reduceEqDiff, Int.reduceToNat, Int.reduceLE, Int.reduceLT, Nat.reduceAdd, Nat.reduceLeDiff, intBin, strBin, unD, extractD, lit1, lit2, lit3, keptD, boxR, D.one, D.pub1, D.cells, splice, cutOwn]
  refine Fn.use (symsValidateWord_c w) ?_
  have hle1 : HLe σ (σ.new (.cells 23 [encSS w])) := HLe.self_new _ hcl
  by_cases c1 : badW w = 0
  · have c1' : (badW w != 0) = false := by simpa using c1
    simp -dsimp only [c1', ↓preB, postB, genB, ↓reduceIte, Nat.reduceEqDiff, Int.reduceToNat, Int.reduceLE, Int.reduceLT, Nat.reduceAdd, Nat.reduceLeDiff, intBin, strBin, unD, extractD, lit1, lit2, lit3, keptD, boxR, D.one, D.pub1, D.cells, splice, cutOwn]
    refine Fn.use none0_c ?_
    simp -dsimp only [↓preB, postB, genB, ↓reduceIte, Nat.reduceEqDiff, Int.reduceToNat, Int.reduceLE, Int.reduceLT, Nat.reduceAdd, Nat.reduceLeDiff, intBin, strBin, unD, extractD, lit1, lit2, lit3, keptD, boxR, D.one, D.pub1, D.cells, splice, cutOwn]
    refine Ret.isH hle1 hcl (by rw [if_neg (fun h => h c1)]) (.tup2 (.sl _ _ _ (fun r z he => by cases he) fun d hd => by cases hd) (.int _ _))
  · have c1' : (badW w != 0) = true := by simpa using c1
    simp -dsimp only [c1', ↓preB, postB, genB, ↓reduceIte, Nat.reduceEqDiff, Int.reduceToNat, Int.reduceLE, Int.reduceLT, Nat.reduceAdd, Nat.reduceLeDiff, intBin, strBin, unD, extractD, lit1, lit2, lit3, keptD, boxR, D.one, D.pub1, D.cells, splice, cutOwn]
    refine Ret.isH hle1 hcl (by rw [if_pos c1]) (.tup2 (.sl _ _ _ (fun r z he => by cases he) fun d hd => by cases hd) (.int _ _))
end Go.Proofs.Ythchlpikcpidaaa.Vs
