/- numbers of Ythchlpikcpidaaa -/
/- The guesser's small functions: names, keys, endings, orders. -/
import Derived.Test.YthchlpikcpidaaaGuessA
import Derived.Test.YthchlpikcpidaaaFnKey
namespace Go.Proofs.Ythchlpikcpidaaa.Vs
set_option linter.unusedVariables false
set_option linter.unusedSimpArgs false
set_option maxRecDepth 20000

theorem gkey_c (w : Wd) (hw : goodW w) : Fn Zs 34 [encSS w] (.str (keyB w sp)) := by
  refine fn_of (Z := Zs) ok34 fun σ hcl hbl => ?_
  simp -dsimp only [L34, ↓preB, postB, genB, ↓reduceIte, Nat.reduceEqDiff, Int.reduceToNat, Int.reduceLE, Int.reduceLT, Nat.reduceAdd, Nat.reduceLeDiff, intBin, strBin, unD, extractD, lit1, lit2, lit3, keptD, boxR, D.one, D.pub1, D.cells, splice, cutOwn]
  refine Fn.use (join_c w _ hw.1 hw.2.1 (by decide)) ?_
  simp -dsimp only [↓preB, postB, genB, ↓reduceIte, Nat.reduceEqDiff, Int.reduceToNat, Int.reduceLE, Int.reduceLT, Nat.reduceAdd, Nat.reduceLeDiff, intBin, strBin, unD, extractD, lit1, lit2, lit3, keptD, boxR, D.one, D.pub1, D.cells, splice, cutOwn]
  exact Ret.is rfl

def lowB (c : Int) : Int := IntKind.u8.wrap ((BitVec.ofInt 8 c ||| BitVec.ofInt 8 32).toNat : Int)
theorem or32 (c : Int) : intBin .or .u8 c 32 = some (.int .u8 (lowB c)) := (rfl)
theorem low_all : ∀ n : Fin 256, (decide (lowB (n.val : Int) < 97) || decide (122 < lowB (n.val : Int))) = !(letB (n.val : Int)) := by decide
theorem byteAt_in (s : ByteArray) (i : Nat) : ∃ n : Fin 256, byteAt s i = (n.val : Int) := ⟨⟨(s.data.toList.getD i 0).toNat, UInt8.toNat_lt _⟩, rfl⟩
theorem low_let (s : ByteArray) (i : Nat) : (decide (lowB (byteAt s i) < 97) || decide (122 < lowB (byteAt s i))) = !(letB (byteAt s i)) := by
  obtain ⟨n, hn⟩ := byteAt_in s i
  rw [hn]; exact low_all n
theorem isNm_yes {s : ByteArray} (h : ∀ j, j < s.size → namC s j = true) : isNm s = (decide (1 ≤ s.size) && decide (s.size ≤ 12)) := by
  have : (List.range s.size).all (namC s) = true := by
    simp only [List.all_eq_true, List.mem_range]; exact h
  rw [isNm, this, Bool.true_and]
theorem isNm_no {s : ByteArray} {j : Nat} (hj : j < s.size) (h : namC s j = false) : isNm s = false := by
  have : (List.range s.size).all (namC s) = false := by
    simp only [List.all_eq_false, List.mem_range]; exact ⟨j, hj, by simp [h]⟩
  rw [isNm, this, Bool.false_and]
theorem ne_empty (s : ByteArray) : (!(s == (⟨#[]⟩ : ByteArray))) = decide (1 ≤ s.size) := by
  by_cases h0 : s = ⟨#[]⟩
  · subst h0; rfl
  · have : s.size ≠ 0 := fun hs => h0 (by
      cases s with
      | mk d => congr; exact Array.size_eq_zero_iff.1 hs)
    have h3 : decide (1 ≤ s.size) = true := by simp; omega
    have h5 : (s == (⟨#[]⟩ : ByteArray)) = false := by
      cases hq : (s == (⟨#[]⟩ : ByteArray)) with
      | false => rfl
      | true => exact absurd (ba_eq hq) h0
    rw [h3, h5]; rfl

theorem isName_c (s : ByteArray) : Fn Zs 42 [.str s] (.bool (isNm s)) := by
  refine fn_of (Z := Zs) ok42 fun σ hcl hbl => ?_
  simp -dsimp only [L42, ↓preB, postB, genB, ↓reduceIte, Nat.reduceEqDiff, Int.reduceToNat, Int.reduceLE, Int.reduceLT, Nat.reduceAdd, Nat.reduceLeDiff, intBin, strBin, unD, extractD, lit1, lit2, lit3, keptD, boxR, D.one, D.pub1, D.cells, splice, cutOwn]
  intro hbig
  refine pwp_loopG (fun k env s' => k ≤ s.size ∧ (∀ j, j < k → namC s j = true) ∧ s' = σ ∧ env 7 = .int .i64 (k:Nat) ∧ env 6 = .int .i64 s.size ∧ env 0 = .str s) (fun k => s.size - k) 0 ?_ ?_
  · simp [upd_apply, envOf]
  · rintro k env s' ⟨hk, hp, rfl, h7, h6, h0⟩
    rcases Nat.lt_or_ge k s.size with hlt | hge
    · have hlow := low_let s k
      have stop : namC s k = false → isNm s = false := isNm_no hlt
      have go : namC s k = true → (∀ j, j < k + 1 → namC s j = true) := fun h j hj => by
        rcases Nat.lt_succ_iff_lt_or_eq.1 hj with h' | rfl
        · exact hp j h'
        · exact h
      have zero : ((k : Int) == 0) = decide (k = 0) := by rw [Bool.eq_iff_iff]; simp
      have body : ∀ b1 b2 b3 b4 : Bool, decide (lowB (byteAt s k) < 97) = b1 → decide (122 < lowB (byteAt s k)) = b2 → decide (byteAt s k < 48) = b3 → decide (57 < byteAt s k) = b4 → namC s k = (!(b1 || b2) || (!(decide (k = 0)) && (!b3 && !b4))) := fun b1 b2 b3 b4 q1 q2 q3 q4 => by
        subst q1 q2 q3 q4
        rw [hlow, Bool.not_not, namC, digB]
        congr 1
        have e1 : decide (k ≠ 0) = !(decide (k = 0)) := by simp
        have e2 : decide (48 ≤ byteAt s k) = !(decide (byteAt s k < 48)) := by rw [← decide_not, decide_eq_decide]; omega
        have e3 : decide (byteAt s k ≤ 57) = !(decide (57 < byteAt s k)) := by rw [← decide_not, decide_eq_decide]; omega
        rw [e1, e2, e3]
      cases q1 : decide (lowB (byteAt s k) < 97) <;> cases q2 : decide (122 < lowB (byteAt s k)) <;> cases q0 : decide (k = 0) <;> cases q3 : decide (byteAt s k < 48) <;> cases q4 : decide (57 < byteAt s k) <;>
        (have hb := body _ _ _ _ q1 q2 q3 q4
         rw [q0] at hb
         simp only [Bool.or_true, Bool.or_false, Bool.true_or, Bool.false_or, Bool.not_true, Bool.not_false, Bool.and_true, Bool.and_false, Bool.true_and, Bool.false_and] at hb
         simp -dsimp only [h0, h6, h7, hlt, ↓or32, zero, q0, q1, q2, q3, q4, ↓preB, postB, genB, ↓reduceIte, Nat.reduceEqDiff, Int.reduceToNat, Int.reduceLE, Int.reduceLT, Nat.reduceAdd, Nat.reduceLeDiff, intBin, strBin, unD, extractD, lit1, lit2, lit3, keptD, boxR, D.one, D.pub1, D.cells, splice, cutOwn]) <;> first
        | exact Ret.is (by rw [stop hb])
        | exact ⟨k + 1, ⟨by omega, go hb, wrap64_succ (by omega)⟩, by omega⟩
    · have hy := isNm_yes (fun j hj => hp j (by omega))
      have he := ne_empty s
      cases c1 : (s == (⟨#[]⟩ : ByteArray))
      · simp -dsimp only [h0, h6, h7, Nat.not_lt.2 hge, c1, ↓preB, postB, genB, ↓reduceIte, Nat.reduceEqDiff, Int.reduceToNat, Int.reduceLE, Int.reduceLT, Nat.reduceAdd, Nat.reduceLeDiff, intBin, strBin, unD, extractD, lit1, lit2, lit3, keptD, boxR, D.one, D.pub1, D.cells, splice, cutOwn]
        intros
        exact Ret.is (by rw [hy, ← he, c1]; simp; omega)
      · simp -dsimp only [h0, h6, h7, Nat.not_lt.2 hge, c1, ↓preB, postB, genB, ↓reduceIte, Nat.reduceEqDiff, Int.reduceToNat, Int.reduceLE, Int.reduceLT, Nat.reduceAdd, Nat.reduceLeDiff, intBin, strBin, unD, extractD, lit1, lit2, lit3, keptD, boxR, D.one, D.pub1, D.cells, splice, cutOwn]
        intros
        exact Ret.is (by rw [hy, ← he, c1]; simp)
/-- The reference's names. -/
theorem IsName_c (s : ByteArray) : Fn Zs 44 [.str s] (.bool (isNm s)) := by
  refine fn_of (Z := Zs) ok44 fun σ hcl hbl => ?_
  simp -dsimp only [L44, ↓preB, postB, genB, ↓reduceIte, Nat.reduceEqDiff, Int.reduceToNat, Int.reduceLE, Int.reduceLT, Nat.reduceAdd, Nat.reduceLeDiff, intBin, strBin, unD, extractD, lit1, lit2, lit3, keptD, boxR, D.one, D.pub1, D.cells, splice, cutOwn]
  refine pwp_loopG (fun k env s' => k ≤ s.size ∧ (∀ j, j < k → namC s j = true) ∧ s' = σ ∧ env 3 = .int .i64 (k:Nat) ∧ env 0 = .str s) (fun k => s.size - k) 0 ?_ ?_
  · simp [upd_apply, envOf]
  · rintro k env s' ⟨hk, hp, rfl, h3, h0⟩
    rcases Nat.lt_or_ge k s.size with hlt | hge
    · have stop : namC s k = false → isNm s = false := isNm_no hlt
      have go : namC s k = true → (∀ j, j < k + 1 → namC s j = true) := fun h j hj => by
        rcases Nat.lt_succ_iff_lt_or_eq.1 hj with h' | rfl
        · exact hp j h'
        · exact h
      have zero : ((k : Int) == 0) = decide (k = 0) := by rw [Bool.eq_iff_iff]; simp
      have body : ∀ a1 a2 a3 a4 b3 b4 : Bool, decide (97 ≤ byteAt s k) = a1 → decide (byteAt s k ≤ 122) = a2 → decide (65 ≤ byteAt s k) = a3 → decide (byteAt s k ≤ 90) = a4 → decide (byteAt s k < 48) = b3 → decide (57 < byteAt s k) = b4 → namC s k = ((a1 && a2) || (a3 && a4) || (!(decide (k = 0)) && (!b3 && !b4))) := fun a1 a2 a3 a4 b3 b4 q1 q2 q3 q4 q5 q6 => by
        subst q1 q2 q3 q4 q5 q6
        rw [namC, letB, digB]
        congr 1
        have e1 : decide (k ≠ 0) = !(decide (k = 0)) := by simp
        have e2 : decide (48 ≤ byteAt s k) = !(decide (byteAt s k < 48)) := by rw [← decide_not, decide_eq_decide]; omega
        have e3 : decide (byteAt s k ≤ 57) = !(decide (57 < byteAt s k)) := by rw [← decide_not, decide_eq_decide]; omega
        rw [e1, e2, e3]
      cases q1 : decide (97 ≤ byteAt s k) <;> cases q2 : decide (byteAt s k ≤ 122) <;> cases a3 : decide (65 ≤ byteAt s k) <;> cases a4 : decide (byteAt s k ≤ 90) <;> cases q0 : decide (k = 0) <;> cases q3 : decide (byteAt s k < 48) <;> cases q4 : decide (57 < byteAt s k) <;>
        first
        | (exfalso; simp only [decide_eq_true_eq, decide_eq_false_iff_not] at q1 q2 a3 a4 q3 q4; omega)
        | (have hb := body _ _ _ _ _ _ q1 q2 a3 a4 q3 q4
           rw [q0] at hb
           simp only [Bool.or_true, Bool.or_false, Bool.true_or, Bool.false_or, Bool.not_true, Bool.not_false, Bool.and_true, Bool.and_false, Bool.true_and, Bool.false_and] at hb
           simp -dsimp only [h0, h3, hlt, zero, q0, q1, q2, a3, a4, q3, q4, ↓preB, postB, genB, ↓reduceIte, Nat.reduceEqDiff, Int.reduceToNat, Int.reduceLE, Int.reduceLT, Nat.reduceAdd, Nat.reduceLeDiff, intBin, strBin, unD, extractD, lit1, lit2, lit3, keptD, boxR, D.one, D.pub1, D.cells, splice, cutOwn]
           intro hbig
           first
           | exact Ret.is (by rw [stop hb])
           | exact ⟨k + 1, ⟨by omega, go hb, wrap64_succ (by omega)⟩, by omega⟩)
    · have hy := isNm_yes (fun j hj => hp j (by omega))
      by_cases c1 : (1 : Int) ≤ (s.size : Int)
      · simp -dsimp only [h0, h3, Nat.not_lt.2 hge, c1, ↓preB, postB, genB, ↓reduceIte, Nat.reduceEqDiff, Int.reduceToNat, Int.reduceLE, Int.reduceLT, Nat.reduceAdd, Nat.reduceLeDiff, intBin, strBin, unD, extractD, lit1, lit2, lit3, keptD, boxR, D.one, D.pub1, D.cells, splice, cutOwn]
        intros
        have e1 : decide (1 ≤ s.size) = true := by simp; omega
        exact Ret.is (by rw [hy, e1, Bool.true_and]; congr 1; rw [decide_eq_decide]; omega)
      · simp -dsimp only [h0, h3, Nat.not_lt.2 hge, c1, ↓preB, postB, genB, ↓reduceIte, Nat.reduceEqDiff, Int.reduceToNat, Int.reduceLE, Int.reduceLT, Nat.reduceAdd, Nat.reduceLeDiff, intBin, strBin, unD, extractD, lit1, lit2, lit3, keptD, boxR, D.one, D.pub1, D.cells, splice, cutOwn]
        intros
        have e1 : decide (1 ≤ s.size) = false := decide_eq_false (by omega)
        exact Ret.is (by rw [hy, e1]; simp)

theorem cmpWd_c (a b : Wd) : Fn Zs 61 [encSS a, encSS b] (.int .i64 (cmpW a b)) := by
  refine fn_of (Z := Zs) ok61 fun σ hcl hbl => ?_
  simp -dsimp only [L61, encSS, ↓preB, postB, genB, ↓reduceIte, Nat.reduceEqDiff, Int.reduceToNat, Int.reduceLE, Int.reduceLT, Nat.reduceAdd, Nat.reduceLeDiff, intBin, strBin, unD, extractD, lit1, lit2, lit3, keptD, boxR, D.one, D.pub1, D.cells, splice, cutOwn]
  intro h1 h2
  by_cases c1 : a.length < b.length
  · simp -dsimp only [c1, ↓preB, postB, genB, ↓reduceIte, Nat.reduceEqDiff, Int.reduceToNat, Int.reduceLE, Int.reduceLT, Nat.reduceAdd, Nat.reduceLeDiff, intBin, strBin, unD, extractD, lit1, lit2, lit3, keptD, boxR, D.one, D.pub1, D.cells, splice, cutOwn]
    exact Ret.is (by rw [cmpW, if_pos c1])
  · by_cases c2 : b.length < a.length
    · simp -dsimp only [c1, c2, ↓preB, postB, genB, ↓reduceIte, Nat.reduceEqDiff, Int.reduceToNat, Int.reduceLE, Int.reduceLT, Nat.reduceAdd, Nat.reduceLeDiff, intBin, strBin, unD, extractD, lit1, lit2, lit3, keptD, boxR, D.one, D.pub1, D.cells, splice, cutOwn]
      intros
      exact Ret.is (by rw [cmpW, if_neg c1, if_pos c2])
    · simp -dsimp only [c1, c2, ↓preB, postB, genB, ↓reduceIte, Nat.reduceEqDiff, Int.reduceToNat, Int.reduceLE, Int.reduceLT, Nat.reduceAdd, Nat.reduceLeDiff, intBin, strBin, unD, extractD, lit1, lit2, lit3, keptD, boxR, D.one, D.pub1, D.cells, splice, cutOwn]
      intros
      refine Fn.use (Order_c a b) ?_
      simp -dsimp only [↓preB, postB, genB, ↓reduceIte, Nat.reduceEqDiff, Int.reduceToNat, Int.reduceLE, Int.reduceLT, Nat.reduceAdd, Nat.reduceLeDiff, intBin, strBin, unD, extractD, lit1, lit2, lit3, keptD, boxR, D.one, D.pub1, D.cells, splice, cutOwn]
      exact Ret.is (by rw [cmpW, if_neg c1, if_neg c2])

theorem isEnding_c (e w : Wd) : Fn Zs 35 [encSS e, encSS w] (.bool (isEnd e w)) := by
  refine fn_of (Z := Zs) ok35 fun σ hcl hbl => ?_
  simp -dsimp only [L35, encSS, ↓preB, postB, genB, ↓reduceIte, Nat.reduceEqDiff, Int.reduceToNat, Int.reduceLE, Int.reduceLT, Nat.reduceAdd, Nat.reduceLeDiff, intBin, strBin, unD, extractD, lit1, lit2, lit3, keptD, boxR, D.one, D.pub1, D.cells, splice, cutOwn]
  refine pwp_loopG (fun k env s => k ≤ e.length ∧ (0 < k → e.length ≤ w.length) ∧ isEnd e w = (decide (e.length ≤ w.length) && eqW (w.drop (w.length - e.length + k)) (e.drop k)) ∧ s = σ ∧ env 5 = .int .i64 (k:Nat) ∧ env 0 = encSS e ∧ env 1 = encSS w) (fun k => e.length - k) 0 ?_ ?_
  · simp [upd_apply, envOf, encSS, isEnd]
  · rintro k env s ⟨hk, h00, hp, rfl, h5, h0, h1⟩
    rcases Nat.lt_or_ge k e.length with hlt | hge
    · rcases Nat.lt_or_ge w.length e.length with hl | hl
      · have hk0 : k = 0 := by
          rcases Nat.eq_zero_or_pos k with h | h
          · exact h
          · have := h00 h; omega
        subst hk0
        have hneg : IntKind.i64.wrap (IntKind.i64.wrap ((w.length : Int) - (e.length : Int)) + ((0 : Nat) : Int)) < 0 ∨ ¬ (e.length ≤ big ∧ w.length ≤ big) := by
          by_cases hb : e.length ≤ big ∧ w.length ≤ big
          · left
            obtain ⟨hb1, hb2⟩ := hb
            simp only [big] at hb1 hb2
            have w1 : IntKind.i64.wrap ((w.length : Int) - (e.length : Int)) = (w.length : Int) - (e.length : Int) := wrap64_in (by omega) (by omega)
            rw [w1, wrap64_in (by omega) (by omega)]; omega
          · exact .inr hb
        have hf : isEnd e w = false := by rw [hp, show decide (e.length ≤ w.length) = false by simp; omega, Bool.false_and]
        simp -dsimp only [h5, h0, h1, encSS, hlt, ↓preB, postB, genB, ↓reduceIte, Nat.reduceEqDiff, Int.reduceToNat, Int.reduceLE, Int.reduceLT, Nat.reduceAdd, Nat.reduceLeDiff, intBin, strBin, unD, extractD, lit1, lit2, lit3, keptD, boxR, D.one, D.pub1, D.cells, splice, cutOwn]
        intro hb1 hb2
        rcases hneg with hneg | hneg
        · intros
          refine draw_s ?_
          simp -dsimp only [h5, h0, h1, encSS, hlt, hneg, ↓preB, postB, genB, ↓reduceIte, Nat.reduceEqDiff, Int.reduceToNat, Int.reduceLE, Int.reduceLT, Nat.reduceAdd, Nat.reduceLeDiff, intBin, strBin, unD, extractD, lit1, lit2, lit3, keptD, boxR, D.one, D.pub1, D.cells, splice, cutOwn]
          exact Ret.is (by rw [hf])
        · exact absurd ⟨hb1, by assumption⟩ hneg
      · have hx : e[k]? = some e[k] := List.getElem?_eq_getElem hlt
        have hlt' : w.length - e.length + k < w.length := by omega
        have hy : w[w.length - e.length + k]? = some w[w.length - e.length + k] := List.getElem?_eq_getElem hlt'
        rw [List.drop_eq_getElem_cons hlt, List.drop_eq_getElem_cons hlt', eqW] at hp
        have hde : decide (e.length ≤ w.length) = true := by simp; omega
        rw [hde, Bool.true_and] at hp
        simp -dsimp only [h5, h0, h1, encSS, hlt, ↓preB, postB, genB, ↓reduceIte, Nat.reduceEqDiff, Int.reduceToNat, Int.reduceLE, Int.reduceLT, Nat.reduceAdd, Nat.reduceLeDiff, intBin, strBin, unD, extractD, lit1, lit2, lit3, keptD, boxR, D.one, D.pub1, D.cells, splice, cutOwn]
        intro hb1 hb2
        intros
        have hw : IntKind.i64.wrap (IntKind.i64.wrap ((w.length : Int) - (e.length : Int)) + (k : Int)) = ((w.length - e.length + k : Nat) : Int) := by
          simp only [big] at *
          have w1 : IntKind.i64.wrap ((w.length : Int) - (e.length : Int)) = (w.length : Int) - (e.length : Int) := wrap64_in (by omega) (by omega)
          rw [w1, wrap64_in (by omega) (by omega)]; omega
        have hn0 : ¬ ((w.length - e.length + k : Nat) : Int) < 0 := by omega
        rw [hw]
        refine draw_s ?_
        cases c1 : (w[w.length - e.length + k] == e[k])
        · simp -dsimp only [h5, h0, h1, encSS, hlt, hlt', hx, hy, hn0, c1, ↓preB, postB, genB, ↓reduceIte, Nat.reduceEqDiff, Int.reduceToNat, Int.reduceLE, Int.reduceLT, Nat.reduceAdd, Nat.reduceLeDiff, intBin, strBin, unD, extractD, lit1, lit2, lit3, keptD, boxR, D.one, D.pub1, D.cells, splice, cutOwn]
          exact ⟨by omega, by omega, Ret.is (by rw [hp, c1]; rfl)⟩
        · simp -dsimp only [h5, h0, h1, encSS, hlt, hlt', hx, hy, hn0, c1, ↓preB, postB, genB, ↓reduceIte, Nat.reduceEqDiff, Int.reduceToNat, Int.reduceLE, Int.reduceLT, Nat.reduceAdd, Nat.reduceLeDiff, intBin, strBin, unD, extractD, lit1, lit2, lit3, keptD, boxR, D.one, D.pub1, D.cells, splice, cutOwn]
          refine ⟨by omega, by omega, k + 1, ⟨by omega, fun _ => hl, ?_, wrap64_succ (by simp only [big] at *; omega)⟩, by omega⟩
          rw [hp, c1, hde]; rfl
    · simp -dsimp only [h5, h0, h1, encSS, Nat.not_lt.2 hge, ↓preB, postB, genB, ↓reduceIte, Nat.reduceEqDiff, Int.reduceToNat, Int.reduceLE, Int.reduceLT, Nat.reduceAdd, Nat.reduceLeDiff, intBin, strBin, unD, extractD, lit1, lit2, lit3, keptD, boxR, D.one, D.pub1, D.cells, splice, cutOwn]
      intros
      refine Ret.is ?_
      rw [hp, List.drop_of_length_le hge]
      rcases Nat.lt_or_ge w.length e.length with hl | hl
      · rcases Nat.eq_zero_or_pos k with h | h
        · omega
        · have := h00 h; omega
      · rw [List.drop_of_length_le (by omega)]
        simp [eqW]; omega
end Go.Proofs.Ythchlpikcpidaaa.Vs
