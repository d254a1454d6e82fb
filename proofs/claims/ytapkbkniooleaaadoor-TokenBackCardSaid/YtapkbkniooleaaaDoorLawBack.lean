/- numbers of YtapkbkniooleaaaDoor -/
import Derived.Test.YtapkbkniooleaaaDoorSq1
import Derived.Test.YtapkbkniooleaaaDoorLawSpells
namespace Go.Proofs.YtapkbkniooleaaaDoor.Vs
set_option linter.unusedVariables false
set_option linter.unusedSimpArgs false
set_option maxRecDepth 100000
theorem uns_six (m : Nat) (h : m < 1000000) : uns (six m) = ((m : Int), true) := by
  unfold uns
  rw [num_six m h, if_neg]
  rintro (h1 | h1 | h1)
  · omega
  · omega
  · exact h1 (by rw [Int.toNat_natCast])
theorem uns_cases (l : List UInt8) : uns l = (0, false) ∨ ∃ m : Nat, m < 1000000 ∧ six m = l ∧ uns l = ((m : Int), true) := by
  unfold uns
  split
  · exact .inl rfl
  · rename_i h
    have h1 : ¬ num l < 0 := fun x => h (.inl x)
    have h2 : ¬ 999999 < num l := fun x => h (.inr (.inl x))
    have h3 : six (num l).toNat = l := Decidable.not_not.1 fun x => h (.inr (.inr x))
    exact .inr ⟨(num l).toNat, by omega, h3, by rw [show (((num l).toNat : Nat) : Int) = num l by omega]⟩
theorem sixW_size (n : Nat) : (sixW n).size ≤ 140 := by
  have h2 := threeW_size n
  have h1 := threeW_size (n / 1000)
  have h3 := threeW_size (n % 1000)
  unfold sixW
  split
  · omega
  · refine Nat.le_trans (behW_size _ _ _) ?_
    rw [ByteArray.size_append, show (⟨#[32, 116, 104, 111, 117, 115, 97, 110, 100]⟩ : ByteArray).size = 9 from rfl]; omega
theorem six_len (m : Nat) : (six m).length ≤ 200 := by
  have := sixW_size m
  rw [← sixW_l, ← Lib.size_eq]; omega
theorem sixW_toB (m : Nat) : sixW m = toB (six m) := ba_eq_l.2 (sixW_l m)
theorem Spell_six (m : Nat) (h : m < 1000000) : Fn Zs 14 [.int .i64 (m : Nat)] (.tup [.str (toB (six m)), .int .i64 0]) := by
  have := Spell_c (m : Int)
  rw [encSp_3 (by omega) (by omega), Int.toNat_natCast, sixW_toB] at this
  exact this
theorem back_of (n : Int) (s : ByteArray) : Fn Zs 6 [.int .i64 n, .str s] (.bool true) := by
  obtain ⟨l, rfl⟩ : ∃ l, s = toB l := ⟨s.data.toList, ba_eq_l.2 rfl⟩
  have hz := toB_size l
  refine fn_of (Z := Zs) ok6 fun σ hcl hbl => ?_
  simp -dsimp only [L6, ↓preB, postB, genB, ↓reduceIte, Nat.reduceEqDiff, Int.reduceToNat, Int.reduceLE, Int.reduceLT, Nat.reduceAdd, Nat.reduceLeDiff, intBin, strBin, unD, extractD, lit1, lit2, lit3, keptD, boxR, D.one, D.pub1, D.cells, splice, cutOwn]
  by_cases c0 : 24000 < l.length
  · have k0 : (24000 : Int) < ((toB l).size : Int) := by omega
    simp -dsimp only [k0, gate, decide_true, decide_false, Bool.not_true, Bool.not_false, bTT, bTF, bFT, bFF, ↓preB, postB, genB, ↓reduceIte, Nat.reduceEqDiff, Int.reduceToNat, Int.reduceLE, Int.reduceLT, Nat.reduceAdd, Nat.reduceLeDiff, intBin, strBin, unD, extractD, lit1, lit2, lit3, keptD, boxR, D.one, D.pub1, D.cells, splice, cutOwn]
    intros
    refine Fn.use known_c ?_
    simp -dsimp only [gate, decide_true, decide_false, Bool.not_true, Bool.not_false, bTT, bTF, bFT, bFF, ↓preB, postB, genB, ↓reduceIte, Nat.reduceEqDiff, Int.reduceToNat, Int.reduceLE, Int.reduceLT, Nat.reduceAdd, Nat.reduceLeDiff, intBin, strBin, unD, extractD, lit1, lit2, lit3, keptD, boxR, D.one, D.pub1, D.cells, splice, cutOwn]
    exact Ret.is rfl
  have k0 : ¬ (24000 : Int) < ((toB l).size : Int) := by omega
  have hU := Unspell_c l (by omega)
  have hS := Spell_c n
  have hX : encSp n = .tup [.str ⟨#[]⟩, .int .i64 1] ∨ ∃ m : Nat, n = m ∧ m < 1000000 := by
    by_cases c1 : n < 0
    · exact .inl (encSp_1 c1)
    by_cases c2 : 999999 < n
    · exact .inl (encSp_2 c2)
    exact .inr ⟨n.toNat, by omega, by omega⟩
  have ei : ∀ x : Int, (x == x) = true := fun x => by simp
  have es : ∀ s : ByteArray, (s == s) = true := fun s => ba_refl s
  have e10 : ((1 : Int) == 0) = false := rfl
  have en : ∀ x : Int, (x != x) = false := fun x => by rw [bne, ei]; rfl
  have et : ∀ s : ByteArray, (s != s) = false := fun s => by rw [bne, es]; rfl
  simp -dsimp only [k0, gate, decide_true, decide_false, Bool.not_true, Bool.not_false, bTT, bTF, bFT, bFF, ↓preB, postB, genB, ↓reduceIte, Nat.reduceEqDiff, Int.reduceToNat, Int.reduceLE, Int.reduceLT, Nat.reduceAdd, Nat.reduceLeDiff, intBin, strBin, unD, extractD, lit1, lit2, lit3, keptD, boxR, D.one, D.pub1, D.cells, splice, cutOwn]
  intros
  rcases uns_cases l with hu | ⟨r, hr, hl, hu⟩
  · rw [hu] at hU
    rcases hX with hX | ⟨m, rfl, hm⟩
    · rw [hX] at hS
      refine Fn.use hS ?_
      simp -dsimp only [k0, e10, ei, es, en, et, List.getElem?_cons_zero, List.getElem?_cons_succ, gate, decide_true, decide_false, Bool.not_true, Bool.not_false, bTT, bTF, bFT, bFF, ↓preB, postB, genB, ↓reduceIte, Nat.reduceEqDiff, Int.reduceToNat, Int.reduceLE, Int.reduceLT, Nat.reduceAdd, Nat.reduceLeDiff, intBin, strBin, unD, extractD, lit1, lit2, lit3, keptD, boxR, D.one, D.pub1, D.cells, splice, cutOwn]
      refine Fn.use hU ?_
      simp -dsimp only [k0, e10, ei, es, en, et, List.getElem?_cons_zero, List.getElem?_cons_succ, gate, decide_true, decide_false, Bool.not_true, Bool.not_false, bTT, bTF, bFT, bFF, ↓preB, postB, genB, ↓reduceIte, Nat.reduceEqDiff, Int.reduceToNat, Int.reduceLE, Int.reduceLT, Nat.reduceAdd, Nat.reduceLeDiff, intBin, strBin, unD, extractD, lit1, lit2, lit3, keptD, boxR, D.one, D.pub1, D.cells, splice, cutOwn]
      refine Fn.use known_c ?_
      simp -dsimp only [gate, decide_true, decide_false, Bool.not_true, Bool.not_false, bTT, bTF, bFT, bFF, ↓preB, postB, genB, ↓reduceIte, Nat.reduceEqDiff, Int.reduceToNat, Int.reduceLE, Int.reduceLT, Nat.reduceAdd, Nat.reduceLeDiff, intBin, strBin, unD, extractD, lit1, lit2, lit3, keptD, boxR, D.one, D.pub1, D.cells, splice, cutOwn]
      exact Ret.is rfl
    · refine Fn.use (Spell_six m hm) ?_
      simp -dsimp only [k0, e10, ei, es, en, et, List.getElem?_cons_zero, List.getElem?_cons_succ, gate, decide_true, decide_false, Bool.not_true, Bool.not_false, bTT, bTF, bFT, bFF, ↓preB, postB, genB, ↓reduceIte, Nat.reduceEqDiff, Int.reduceToNat, Int.reduceLE, Int.reduceLT, Nat.reduceAdd, Nat.reduceLeDiff, intBin, strBin, unD, extractD, lit1, lit2, lit3, keptD, boxR, D.one, D.pub1, D.cells, splice, cutOwn]
      have hV := Unspell_c (six m) (by have := six_len m; omega)
      rw [uns_six m hm] at hV
      refine Fn.use hV ?_
      simp -dsimp only [k0, e10, ei, es, en, et, List.getElem?_cons_zero, List.getElem?_cons_succ, gate, decide_true, decide_false, Bool.not_true, Bool.not_false, bTT, bTF, bFT, bFF, ↓preB, postB, genB, ↓reduceIte, Nat.reduceEqDiff, Int.reduceToNat, Int.reduceLE, Int.reduceLT, Nat.reduceAdd, Nat.reduceLeDiff, intBin, strBin, unD, extractD, lit1, lit2, lit3, keptD, boxR, D.one, D.pub1, D.cells, splice, cutOwn]
      refine Fn.use hU ?_
      simp -dsimp only [k0, e10, ei, es, en, et, List.getElem?_cons_zero, List.getElem?_cons_succ, gate, decide_true, decide_false, Bool.not_true, Bool.not_false, bTT, bTF, bFT, bFF, ↓preB, postB, genB, ↓reduceIte, Nat.reduceEqDiff, Int.reduceToNat, Int.reduceLE, Int.reduceLT, Nat.reduceAdd, Nat.reduceLeDiff, intBin, strBin, unD, extractD, lit1, lit2, lit3, keptD, boxR, D.one, D.pub1, D.cells, splice, cutOwn]
      refine Fn.use known_c ?_
      simp -dsimp only [gate, decide_true, decide_false, Bool.not_true, Bool.not_false, bTT, bTF, bFT, bFF, ↓preB, postB, genB, ↓reduceIte, Nat.reduceEqDiff, Int.reduceToNat, Int.reduceLE, Int.reduceLT, Nat.reduceAdd, Nat.reduceLeDiff, intBin, strBin, unD, extractD, lit1, lit2, lit3, keptD, boxR, D.one, D.pub1, D.cells, splice, cutOwn]
      exact Ret.is rfl
  · rw [hu] at hU
    have hT := Spell_six r hr
    rw [hl] at hT
    rcases hX with hX | ⟨m, rfl, hm⟩
    · rw [hX] at hS
      refine Fn.use hS ?_
      simp -dsimp only [k0, e10, ei, es, en, et, List.getElem?_cons_zero, List.getElem?_cons_succ, gate, decide_true, decide_false, Bool.not_true, Bool.not_false, bTT, bTF, bFT, bFF, ↓preB, postB, genB, ↓reduceIte, Nat.reduceEqDiff, Int.reduceToNat, Int.reduceLE, Int.reduceLT, Nat.reduceAdd, Nat.reduceLeDiff, intBin, strBin, unD, extractD, lit1, lit2, lit3, keptD, boxR, D.one, D.pub1, D.cells, splice, cutOwn]
      refine Fn.use hU ?_
      simp -dsimp only [k0, e10, ei, es, en, et, List.getElem?_cons_zero, List.getElem?_cons_succ, gate, decide_true, decide_false, Bool.not_true, Bool.not_false, bTT, bTF, bFT, bFF, ↓preB, postB, genB, ↓reduceIte, Nat.reduceEqDiff, Int.reduceToNat, Int.reduceLE, Int.reduceLT, Nat.reduceAdd, Nat.reduceLeDiff, intBin, strBin, unD, extractD, lit1, lit2, lit3, keptD, boxR, D.one, D.pub1, D.cells, splice, cutOwn]
      refine Fn.use hT ?_
      simp -dsimp only [k0, e10, ei, es, en, et, List.getElem?_cons_zero, List.getElem?_cons_succ, gate, decide_true, decide_false, Bool.not_true, Bool.not_false, bTT, bTF, bFT, bFF, ↓preB, postB, genB, ↓reduceIte, Nat.reduceEqDiff, Int.reduceToNat, Int.reduceLE, Int.reduceLT, Nat.reduceAdd, Nat.reduceLeDiff, intBin, strBin, unD, extractD, lit1, lit2, lit3, keptD, boxR, D.one, D.pub1, D.cells, splice, cutOwn]
      refine Fn.use known_c ?_
      simp -dsimp only [gate, decide_true, decide_false, Bool.not_true, Bool.not_false, bTT, bTF, bFT, bFF, ↓preB, postB, genB, ↓reduceIte, Nat.reduceEqDiff, Int.reduceToNat, Int.reduceLE, Int.reduceLT, Nat.reduceAdd, Nat.reduceLeDiff, intBin, strBin, unD, extractD, lit1, lit2, lit3, keptD, boxR, D.one, D.pub1, D.cells, splice, cutOwn]
      exact Ret.is rfl
    · refine Fn.use (Spell_six m hm) ?_
      simp -dsimp only [k0, e10, ei, es, en, et, List.getElem?_cons_zero, List.getElem?_cons_succ, gate, decide_true, decide_false, Bool.not_true, Bool.not_false, bTT, bTF, bFT, bFF, ↓preB, postB, genB, ↓reduceIte, Nat.reduceEqDiff, Int.reduceToNat, Int.reduceLE, Int.reduceLT, Nat.reduceAdd, Nat.reduceLeDiff, intBin, strBin, unD, extractD, lit1, lit2, lit3, keptD, boxR, D.one, D.pub1, D.cells, splice, cutOwn]
      have hV := Unspell_c (six m) (by have := six_len m; omega)
      rw [uns_six m hm] at hV
      refine Fn.use hV ?_
      simp -dsimp only [k0, e10, ei, es, en, et, List.getElem?_cons_zero, List.getElem?_cons_succ, gate, decide_true, decide_false, Bool.not_true, Bool.not_false, bTT, bTF, bFT, bFF, ↓preB, postB, genB, ↓reduceIte, Nat.reduceEqDiff, Int.reduceToNat, Int.reduceLE, Int.reduceLT, Nat.reduceAdd, Nat.reduceLeDiff, intBin, strBin, unD, extractD, lit1, lit2, lit3, keptD, boxR, D.one, D.pub1, D.cells, splice, cutOwn]
      refine Fn.use hU ?_
      simp -dsimp only [k0, e10, ei, es, en, et, List.getElem?_cons_zero, List.getElem?_cons_succ, gate, decide_true, decide_false, Bool.not_true, Bool.not_false, bTT, bTF, bFT, bFF, ↓preB, postB, genB, ↓reduceIte, Nat.reduceEqDiff, Int.reduceToNat, Int.reduceLE, Int.reduceLT, Nat.reduceAdd, Nat.reduceLeDiff, intBin, strBin, unD, extractD, lit1, lit2, lit3, keptD, boxR, D.one, D.pub1, D.cells, splice, cutOwn]
      refine Fn.use hT ?_
      simp -dsimp only [k0, e10, ei, es, en, et, List.getElem?_cons_zero, List.getElem?_cons_succ, gate, decide_true, decide_false, Bool.not_true, Bool.not_false, bTT, bTF, bFT, bFF, ↓preB, postB, genB, ↓reduceIte, Nat.reduceEqDiff, Int.reduceToNat, Int.reduceLE, Int.reduceLT, Nat.reduceAdd, Nat.reduceLeDiff, intBin, strBin, unD, extractD, lit1, lit2, lit3, keptD, boxR, D.one, D.pub1, D.cells, splice, cutOwn]
      refine Fn.use known_c ?_
      simp -dsimp only [gate, decide_true, decide_false, Bool.not_true, Bool.not_false, bTT, bTF, bFT, bFF, ↓preB, postB, genB, ↓reduceIte, Nat.reduceEqDiff, Int.reduceToNat, Int.reduceLE, Int.reduceLT, Nat.reduceAdd, Nat.reduceLeDiff, intBin, strBin, unD, extractD, lit1, lit2, lit3, keptD, boxR, D.one, D.pub1, D.cells, splice, cutOwn]
      exact Ret.is rfl
end Go.Proofs.YtapkbkniooleaaaDoor.Vs
