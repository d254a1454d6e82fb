/- numbers of Ytapkbkniooleaaa -/
import Derived.Test.YtapkbkniooleaaaGreatTkN
namespace Go.Proofs.YtapkbkniooleaaaGreat.Vs
set_option linter.unusedVariables false
set_option linter.unusedSimpArgs false
set_option maxRecDepth 100000
theorem digitsR_c (s : ByteArray) (a : Nat) (ha : a ≤ 1000000) : Fn Zs 68 [.str s, .int .i64 a] (.int .i64 (digW s a : Nat)) := by
  refine fn_of (Z := Zs) ok68 fun σ hcl hbl => ?_
  simp -dsimp only [L68, ↓preB, postB, genB, ↓reduceIte, Nat.reduceEqDiff, Int.reduceToNat, Int.reduceLE, Int.reduceLT, Nat.reduceAdd, Nat.reduceLeDiff, intBin, strBin, unD, extractD, lit1, lit2, lit3, keptD, boxR, D.one, D.pub1, D.cells, splice, cutOwn]
  refine pwp_loopG (fun k env τ => a ≤ k ∧ (k ≤ s.size ∨ k = a) ∧ digW s a = digW s k ∧ τ = σ ∧ env 1 = .int .i64 (k:Nat) ∧ env 0 = .str s) (fun k => s.size - k) a ?_ ?_
  · simp only [upd_apply, envOf_apply, Nat.reduceEqDiff, if_true, if_false]
    exact ⟨Nat.le_refl _, .inr trivial, (by first | trivial | rfl | omega), (by first | trivial | rfl | omega), (by first | trivial | rfl | omega), (by first | trivial | rfl | omega)⟩
  · rintro k env τ ⟨hak, hk, hp, rfl, h3, h0⟩
    rcases Nat.lt_or_ge k s.size with hlt | hge
    · have hn : (k : Int) < s.size := by omega
      simp -dsimp only [h3, h0, hn, hlt, gate, decide_true, decide_false, Bool.not_true, Bool.not_false, bTT, bTF, bFT, bFF, ↓preB, postB, genB, ↓reduceIte, Nat.reduceEqDiff, Int.reduceToNat, Int.reduceLE, Int.reduceLT, Nat.reduceAdd, Nat.reduceLeDiff, intBin, strBin, unD, extractD, lit1, lit2, lit3, keptD, boxR, D.one, D.pub1, D.cells, splice, cutOwn]
      intro hbig
      refine Fn.use (isDigitR_c _) ?_
      rw [digW_step hlt] at hp
      cases e1 : isDigitI (byteAt s k)
      · rw [e1] at hp
        simp -dsimp only [h3, h0, hn, hlt, e1, gate, decide_true, decide_false, Bool.not_true, Bool.not_false, bTT, bTF, bFT, bFF, ↓preB, postB, genB, ↓reduceIte, Nat.reduceEqDiff, Int.reduceToNat, Int.reduceLE, Int.reduceLT, Nat.reduceAdd, Nat.reduceLeDiff, intBin, strBin, unD, extractD, lit1, lit2, lit3, keptD, boxR, D.one, D.pub1, D.cells, splice, cutOwn]
        exact Ret.is (by rw [hp]; rfl)
      · rw [e1] at hp
        simp -dsimp only [h3, h0, hn, hlt, e1, gate, decide_true, decide_false, Bool.not_true, Bool.not_false, bTT, bTF, bFT, bFF, ↓preB, postB, genB, ↓reduceIte, Nat.reduceEqDiff, Int.reduceToNat, Int.reduceLE, Int.reduceLT, Nat.reduceAdd, Nat.reduceLeDiff, intBin, strBin, unD, extractD, lit1, lit2, lit3, keptD, boxR, D.one, D.pub1, D.cells, splice, cutOwn]
        exact ⟨k + 1, ⟨by omega, .inl (by omega), hp, wrap64_succ (by omega)⟩, by omega⟩
    · have hn : ¬ (k : Int) < s.size := by omega
      simp -dsimp only [h3, h0, hn, gate, decide_true, decide_false, Bool.not_true, Bool.not_false, bTT, bTF, bFT, bFF, ↓preB, postB, genB, ↓reduceIte, Nat.reduceEqDiff, Int.reduceToNat, Int.reduceLE, Int.reduceLT, Nat.reduceAdd, Nat.reduceLeDiff, intBin, strBin, unD, extractD, lit1, lit2, lit3, keptD, boxR, D.one, D.pub1, D.cells, splice, cutOwn]
      intro _
      exact Ret.is (by rw [hp, digW_end hge])
theorem isInR_c (s : ByteArray) (a : Nat) : Fn Zs 69 [.str s, .int .i64 a] (.bool (decide (a < s.size) && isPartI (byteAt s a))) := by
  refine fn_of (Z := Zs) ok69 fun σ hcl hbl => ?_
  simp -dsimp only [L69, ↓preB, postB, genB, ↓reduceIte, Nat.reduceEqDiff, Int.reduceToNat, Int.reduceLE, Int.reduceLT, Nat.reduceAdd, Nat.reduceLeDiff, intBin, strBin, unD, extractD, lit1, lit2, lit3, keptD, boxR, D.one, D.pub1, D.cells, splice, cutOwn]
  rcases Nat.lt_or_ge a s.size with hlt | hge
  · have hn : (a : Int) < s.size := by omega
    rw [decide_eq_true hlt, Bool.true_and]
    simp -dsimp only [hn, hlt, gate, decide_true, decide_false, Bool.not_true, Bool.not_false, bTT, bTF, bFT, bFF, ↓preB, postB, genB, ↓reduceIte, Nat.reduceEqDiff, Int.reduceToNat, Int.reduceLE, Int.reduceLT, Nat.reduceAdd, Nat.reduceLeDiff, intBin, strBin, unD, extractD, lit1, lit2, lit3, keptD, boxR, D.one, D.pub1, D.cells, splice, cutOwn]
    intro hb
    refine Fn.use (isLetterR_c _) ?_
    unfold isPartI
    cases q : isLetterI (byteAt s a)
    · simp -dsimp only [hn, hlt, q, gate, decide_true, decide_false, Bool.not_true, Bool.not_false, bTT, bTF, bFT, bFF, ↓preB, postB, genB, ↓reduceIte, Nat.reduceEqDiff, Int.reduceToNat, Int.reduceLE, Int.reduceLT, Nat.reduceAdd, Nat.reduceLeDiff, intBin, strBin, unD, extractD, lit1, lit2, lit3, keptD, boxR, D.one, D.pub1, D.cells, splice, cutOwn]
      refine Fn.use (isDigitR_c _) ?_
      cases q2 : isDigitI (byteAt s a)
      · simp -dsimp only [hn, hlt, q, q2, gate, decide_true, decide_false, Bool.not_true, Bool.not_false, bTT, bTF, bFT, bFF, ↓preB, postB, genB, ↓reduceIte, Nat.reduceEqDiff, Int.reduceToNat, Int.reduceLE, Int.reduceLT, Nat.reduceAdd, Nat.reduceLeDiff, intBin, strBin, unD, extractD, lit1, lit2, lit3, keptD, boxR, D.one, D.pub1, D.cells, splice, cutOwn]
        exact Ret.is rfl
      · simp -dsimp only [hn, hlt, q, q2, gate, decide_true, decide_false, Bool.not_true, Bool.not_false, bTT, bTF, bFT, bFF, ↓preB, postB, genB, ↓reduceIte, Nat.reduceEqDiff, Int.reduceToNat, Int.reduceLE, Int.reduceLT, Nat.reduceAdd, Nat.reduceLeDiff, intBin, strBin, unD, extractD, lit1, lit2, lit3, keptD, boxR, D.one, D.pub1, D.cells, splice, cutOwn]
        exact Ret.is rfl
    · simp -dsimp only [hn, hlt, q, gate, decide_true, decide_false, Bool.not_true, Bool.not_false, bTT, bTF, bFT, bFF, ↓preB, postB, genB, ↓reduceIte, Nat.reduceEqDiff, Int.reduceToNat, Int.reduceLE, Int.reduceLT, Nat.reduceAdd, Nat.reduceLeDiff, intBin, strBin, unD, extractD, lit1, lit2, lit3, keptD, boxR, D.one, D.pub1, D.cells, splice, cutOwn]
      exact Ret.is rfl
  · have hn : ¬ (a : Int) < s.size := by omega
    have hn2 : ¬ a < s.size := by omega
    rw [decide_eq_false hn2, Bool.false_and]
    simp -dsimp only [hn, hn2, gate, decide_true, decide_false, Bool.not_true, Bool.not_false, bTT, bTF, bFT, bFF, ↓preB, postB, genB, ↓reduceIte, Nat.reduceEqDiff, Int.reduceToNat, Int.reduceLE, Int.reduceLT, Nat.reduceAdd, Nat.reduceLeDiff, intBin, strBin, unD, extractD, lit1, lit2, lit3, keptD, boxR, D.one, D.pub1, D.cells, splice, cutOwn]
    exact fun _ => Ret.is rfl
/-- The number at a place: where it ends. -/
def numF (s : ByteArray) (a : Nat) : Nat := numG s (s.size - a) (digW s a)
theorem numW_sfx (s : ByteArray) {a : Nat} (ha : a ≤ s.size) : numW (sfx s a) = if digW s a = a then 0 else if (decide (numF s a < s.size) && isLetterI (byteAt s (numF s a))) = true then 0 else numF s a - a := by
  have h1 := digW_sfx s a 0
  rw [Nat.add_zero] at h1
  have h2 := numG_sfx s a (sfx s a).size (digW (sfx s a) 0)
  rw [h1, sfx_size] at h2
  change _ = numF s a at h2
  unfold numW
  by_cases h0 : digW (sfx s a) 0 = 0
  · rw [if_pos h0, if_pos (by omega)]
  · have hne : ¬ digW s a = a := by omega
    have he : decide (numG (sfx s a) (s.size - a) (digW (sfx s a) 0) < s.size - a) = decide (numF s a < s.size) := decide_eq_decide.2 (by omega)
    rw [if_neg h0, if_neg hne, sfx_at, sfx_size, h2, he]
    split
    · rfl
    · omega
theorem numberR_c (s : ByteArray) (a : Nat) (ha : a ≤ s.size) (hs : s.size ≤ 1000000) : Fn Zs 54 [.str s, .int .i64 a] (.int .i64 (numW (sfx s a) : Nat)) := by
  rw [numW_sfx s ha]
  refine fn_of (Z := Zs) ok54 fun σ hcl hbl => ?_
  simp -dsimp only [L54, ↓preB, postB, genB, ↓reduceIte, Nat.reduceEqDiff, Int.reduceToNat, Int.reduceLE, Int.reduceLT, Nat.reduceAdd, Nat.reduceLeDiff, intBin, strBin, unD, extractD, lit1, lit2, lit3, keptD, boxR, D.one, D.pub1, D.cells, splice, cutOwn]
  refine Fn.use (digitsR_c s a (by omega)) ?_
  by_cases h0 : digW s a = a
  · have c0 : ((digW s a : Int) == (a : Int)) = true := by rw [h0]; simp
    rw [if_pos h0]
    simp -dsimp only [c0, gate, decide_true, decide_false, Bool.not_true, Bool.not_false, bTT, bTF, bFT, bFF, ↓preB, postB, genB, ↓reduceIte, Nat.reduceEqDiff, Int.reduceToNat, Int.reduceLE, Int.reduceLT, Nat.reduceAdd, Nat.reduceLeDiff, intBin, strBin, unD, extractD, lit1, lit2, lit3, keptD, boxR, D.one, D.pub1, D.cells, splice, cutOwn]
    exact Ret.is rfl
  have c0 : ((digW s a : Int) == (a : Int)) = false := by simp only [beq_eq_false_iff_ne, ne_eq]; omega
  rw [if_neg h0]
  simp -dsimp only [c0, gate, decide_true, decide_false, Bool.not_true, Bool.not_false, bTT, bTF, bFT, bFF, ↓preB, postB, genB, ↓reduceIte, Nat.reduceEqDiff, Int.reduceToNat, Int.reduceLE, Int.reduceLT, Nat.reduceAdd, Nat.reduceLeDiff, intBin, strBin, unD, extractD, lit1, lit2, lit3, keptD, boxR, D.one, D.pub1, D.cells, splice, cutOwn]
  have hge := digW_ge s a
  refine pwp_loopJ 0 (fun e τ => τ = σ ∧ e 5 = .int .i64 (numF s a : Nat) ∧ e 1 = .int .i64 (a : Nat) ∧ e 0 = .str s) (fun (x : Nat × Nat) env τ => numF s a = numG s x.1 x.2 ∧ a ≤ x.2 ∧ x.2 ≤ s.size ∧ s.size ≤ x.1 + x.2 ∧ τ = σ ∧ env 5 = .int .i64 x.2 ∧ env 1 = .int .i64 (a : Nat) ∧ env 0 = .str s) (fun x => x.1) (s.size - a, digW s a) ?_ ?_ ?_
  · simp only [upd_apply, envOf_apply, Nat.reduceEqDiff, if_true, if_false]
    exact ⟨rfl, digW_ge s a, digW_le ha, by omega, (by first | trivial | rfl | omega), (by first | trivial | rfl | omega), (by first | trivial | rfl | omega), (by first | trivial | rfl | omega)⟩
  · rintro ⟨k, e⟩ env τ ⟨hp, ha1, h1, h2, rfl, h5, hs1, hs0⟩
    simp only [] at hp ha1 h1 h2 h5
    by_cases c1 : (e : Int) < s.size
    · have h3 : e < s.size := by omega
      obtain ⟨k, rfl⟩ : ∃ j, k = j + 1 := ⟨k - 1, by omega⟩
      rw [numG_step, decide_eq_true h3, Bool.true_and] at hp
      have w1 : IntKind.i64.wrap ((e : Int) + 1) = ((e + 1 : Nat) : Int) := wrap64_succ (by simp only [big]; omega)
      have hD := digitsR_c s (e + 1) (by omega)
      cases q1 : (byteAt s e == 46) <;> cases q2 : (byteAt s e == 44)
      · have hd : isDotI (byteAt s e) = false := by unfold isDotI; rw [q1, q2]; rfl
        rw [hd] at hp
        simp only [Bool.false_and, Bool.false_eq_true, if_false] at hp
        simp -dsimp only [h5, hs1, hs0, c1, h3, q1, q2, hp, exitR_exit, gate, decide_true, decide_false, Bool.not_true, Bool.not_false, bTT, bTF, bFT, bFF, ↓preB, postB, genB, ↓reduceIte, Nat.reduceEqDiff, Int.reduceToNat, Int.reduceLE, Int.reduceLT, Nat.reduceAdd, Nat.reduceLeDiff, intBin, strBin, unD, extractD, lit1, lit2, lit3, keptD, boxR, D.one, D.pub1, D.cells, splice, cutOwn]
      all_goals
        have hd : isDotI (byteAt s e) = true := by unfold isDotI; rw [q1, q2]; rfl
        rw [hd, Bool.true_and] at hp
        simp -dsimp only [h5, hs1, hs0, c1, h3, q1, q2, w1, exitR_exit, gate, decide_true, decide_false, Bool.not_true, Bool.not_false, bTT, bTF, bFT, bFF, ↓preB, postB, genB, ↓reduceIte, Nat.reduceEqDiff, Int.reduceToNat, Int.reduceLE, Int.reduceLT, Nat.reduceAdd, Nat.reduceLeDiff, intBin, strBin, unD, extractD, lit1, lit2, lit3, keptD, boxR, D.one, D.pub1, D.cells, splice, cutOwn]
        intro hb
        refine Fn.use hD ?_
        by_cases c2 : ((e + 1 : Nat) : Int) < (digW s (e + 1) : Nat)
        · have h4 := digW_le (s := s) (n := e + 1) (by omega)
          have h6 : e + 1 < digW s (e + 1) := by omega
          rw [decide_eq_true h6, if_pos rfl] at hp
          simp -dsimp only [h5, hs1, hs0, c1, h3, q1, q2, w1, c2, exitR_exit, gate, decide_true, decide_false, Bool.not_true, Bool.not_false, bTT, bTF, bFT, bFF, ↓preB, postB, genB, ↓reduceIte, Nat.reduceEqDiff, Int.reduceToNat, Int.reduceLE, Int.reduceLT, Nat.reduceAdd, Nat.reduceLeDiff, intBin, strBin, unD, extractD, lit1, lit2, lit3, keptD, boxR, D.one, D.pub1, D.cells, splice, cutOwn]
          refine Fn.use hD ?_
          simp -dsimp only [h5, hs1, hs0, c1, h3, q1, q2, w1, c2, exitR_exit, gate, decide_true, decide_false, Bool.not_true, Bool.not_false, bTT, bTF, bFT, bFF, ↓preB, postB, genB, ↓reduceIte, Nat.reduceEqDiff, Int.reduceToNat, Int.reduceLE, Int.reduceLT, Nat.reduceAdd, Nat.reduceLeDiff, intBin, strBin, unD, extractD, lit1, lit2, lit3, keptD, boxR, D.one, D.pub1, D.cells, splice, cutOwn]
          exact ⟨(k, digW s (e + 1)), ⟨hp, by simp only []; omega, h4, by simp only []; omega, rfl⟩, by simp only []; omega⟩
        · have h6 : ¬ e + 1 < digW s (e + 1) := by omega
          rw [decide_eq_false h6, if_neg (by decide)] at hp
          simp -dsimp only [h5, hs1, hs0, c1, h3, q1, q2, w1, c2, hp, exitR_exit, gate, decide_true, decide_false, Bool.not_true, Bool.not_false, bTT, bTF, bFT, bFF, ↓preB, postB, genB, ↓reduceIte, Nat.reduceEqDiff, Int.reduceToNat, Int.reduceLE, Int.reduceLT, Nat.reduceAdd, Nat.reduceLeDiff, intBin, strBin, unD, extractD, lit1, lit2, lit3, keptD, boxR, D.one, D.pub1, D.cells, splice, cutOwn]
          try exact (by first | trivial | rfl | omega)
    · simp -dsimp only [h5, hs1, hs0, c1, exitR_exit, gate, decide_true, decide_false, Bool.not_true, Bool.not_false, bTT, bTF, bFT, bFF, ↓preB, postB, genB, ↓reduceIte, Nat.reduceEqDiff, Int.reduceToNat, Int.reduceLE, Int.reduceLT, Nat.reduceAdd, Nat.reduceLeDiff, intBin, strBin, unD, extractD, lit1, lit2, lit3, keptD, boxR, D.one, D.pub1, D.cells, splice, cutOwn]
      have : numF s a = e := by
        rw [hp]
        cases k with
        | zero => rfl
        | succ k => rw [numG_step, decide_eq_false (by omega), Bool.false_and, Bool.false_and, if_neg (by decide)]
      rw [this]
      exact fun _ => (by first | trivial | rfl | omega)
  · rintro env τ ⟨rfl, h5, hs1, hs0⟩
    have hle : numF s a ≤ s.size := numG_le s _ _ (digW_le ha)
    have hg : a ≤ numF s a := Nat.le_trans hge (numG_ge s _ _)
    generalize numF s a = e at *
    have w1 : IntKind.i64.wrap ((e : Int) - (a : Int)) = ((e - a : Nat) : Int) := by rw [wrap64_in (by omega) (by omega)]; omega
    by_cases c1 : (e : Int) < s.size
    · have h3 : e < s.size := by omega
      rw [decide_eq_true h3, Bool.true_and]
      simp -dsimp only [h5, hs1, hs0, c1, h3, gate, decide_true, decide_false, Bool.not_true, Bool.not_false, bTT, bTF, bFT, bFF, ↓preB, postB, genB, ↓reduceIte, Nat.reduceEqDiff, Int.reduceToNat, Int.reduceLE, Int.reduceLT, Nat.reduceAdd, Nat.reduceLeDiff, intBin, strBin, unD, extractD, lit1, lit2, lit3, keptD, boxR, D.one, D.pub1, D.cells, splice, cutOwn]
      intro hb
      refine Fn.use (isLetterR_c _) ?_
      cases q : isLetterI (byteAt s e)
      · simp -dsimp only [h5, hs1, hs0, q, w1, gate, decide_true, decide_false, Bool.not_true, Bool.not_false, bTT, bTF, bFT, bFF, ↓preB, postB, genB, ↓reduceIte, Nat.reduceEqDiff, Int.reduceToNat, Int.reduceLE, Int.reduceLT, Nat.reduceAdd, Nat.reduceLeDiff, intBin, strBin, unD, extractD, lit1, lit2, lit3, keptD, boxR, D.one, D.pub1, D.cells, splice, cutOwn]
        exact Ret.is rfl
      · simp -dsimp only [h5, hs1, hs0, q, gate, decide_true, decide_false, Bool.not_true, Bool.not_false, bTT, bTF, bFT, bFF, ↓preB, postB, genB, ↓reduceIte, Nat.reduceEqDiff, Int.reduceToNat, Int.reduceLE, Int.reduceLT, Nat.reduceAdd, Nat.reduceLeDiff, intBin, strBin, unD, extractD, lit1, lit2, lit3, keptD, boxR, D.one, D.pub1, D.cells, splice, cutOwn]
        exact Ret.is rfl
    · have h3 : ¬ e < s.size := by omega
      rw [decide_eq_false h3, Bool.false_and]
      simp -dsimp only [h5, hs1, hs0, c1, h3, w1, gate, decide_true, decide_false, Bool.not_true, Bool.not_false, bTT, bTF, bFT, bFF, ↓preB, postB, genB, ↓reduceIte, Nat.reduceEqDiff, Int.reduceToNat, Int.reduceLE, Int.reduceLT, Nat.reduceAdd, Nat.reduceLeDiff, intBin, strBin, unD, extractD, lit1, lit2, lit3, keptD, boxR, D.one, D.pub1, D.cells, splice, cutOwn]
      intro hb
      exact Ret.is rfl
def wordF (s : ByteArray) (a : Nat) : Nat := wordG s (s.size - a) (a + 1)
theorem wordW_sfx (s : ByteArray) {a : Nat} (ha : a < s.size) : wordW (sfx s a) = if isLetterI (byteAt s a) = true then wordF s a - a else 0 := by
  have h2 := wordG_sfx s a (sfx s a).size 1
  rw [sfx_size] at h2
  change _ = wordF s a at h2
  unfold wordW
  rw [sfx_at, sfx_size, decide_eq_true (by omega), Bool.true_and, Nat.add_zero]
  split
  · omega
  · rfl
theorem wordR_c (s : ByteArray) (a : Nat) (ha : a < s.size) (hs : s.size ≤ 1000000) : Fn Zs 55 [.str s, .int .i64 a] (.int .i64 (wordW (sfx s a) : Nat)) := by
  rw [wordW_sfx s ha]
  refine fn_of (Z := Zs) ok55 fun σ hcl hbl => ?_
  simp -dsimp only [L55, ↓preB, postB, genB, ↓reduceIte, Nat.reduceEqDiff, Int.reduceToNat, Int.reduceLE, Int.reduceLT, Nat.reduceAdd, Nat.reduceLeDiff, intBin, strBin, unD, extractD, lit1, lit2, lit3, keptD, boxR, D.one, D.pub1, D.cells, splice, cutOwn]
  have c0 : (a : Int) < s.size := by omega
  simp -dsimp only [c0, ha, gate, decide_true, decide_false, Bool.not_true, Bool.not_false, bTT, bTF, bFT, bFF, ↓preB, postB, genB, ↓reduceIte, Nat.reduceEqDiff, Int.reduceToNat, Int.reduceLE, Int.reduceLT, Nat.reduceAdd, Nat.reduceLeDiff, intBin, strBin, unD, extractD, lit1, lit2, lit3, keptD, boxR, D.one, D.pub1, D.cells, splice, cutOwn]
  refine Fn.use (isLetterR_c _) ?_
  cases q : isLetterI (byteAt s a)
  · simp -dsimp only [q, gate, decide_true, decide_false, Bool.not_true, Bool.not_false, bTT, bTF, bFT, bFF, ↓preB, postB, genB, ↓reduceIte, Nat.reduceEqDiff, Int.reduceToNat, Int.reduceLE, Int.reduceLT, Nat.reduceAdd, Nat.reduceLeDiff, intBin, strBin, unD, extractD, lit1, lit2, lit3, keptD, boxR, D.one, D.pub1, D.cells, splice, cutOwn]
    exact Ret.is rfl
  have w1 : IntKind.i64.wrap ((a : Int) + 1) = ((a + 1 : Nat) : Int) := wrap64_succ (by simp only [big]; omega)
  simp -dsimp only [q, w1, gate, decide_true, decide_false, Bool.not_true, Bool.not_false, bTT, bTF, bFT, bFF, ↓preB, postB, genB, ↓reduceIte, Nat.reduceEqDiff, Int.reduceToNat, Int.reduceLE, Int.reduceLT, Nat.reduceAdd, Nat.reduceLeDiff, intBin, strBin, unD, extractD, lit1, lit2, lit3, keptD, boxR, D.one, D.pub1, D.cells, splice, cutOwn]
  have hqp : isPartI (byteAt s a) = true := by unfold isPartI; rw [q]; rfl
  refine pwp_loopJ 0 (fun e τ => τ = σ ∧ e 5 = .int .i64 (wordF s a : Nat) ∧ e 1 = .int .i64 (a : Nat)) (fun (x : Nat × Nat × Bool) env τ => a < x.2.1 ∧ x.2.1 ≤ s.size ∧ (if x.2.2 = true then x.2.1 < s.size ∧ isPartI (byteAt s x.2.1) = true ∧ wordF s a = wordG s x.1 (x.2.1 + 1) ∧ s.size ≤ x.1 + (x.2.1 + 1) else isPartI (byteAt s (x.2.1 - 1)) = true ∧ wordF s a = wordG s x.1 x.2.1 ∧ s.size ≤ x.1 + x.2.1) ∧ τ = σ ∧ env 5 = .int .i64 (x.2.1 : Nat) ∧ env 1 = .int .i64 (a : Nat) ∧ env 0 = .str s) (fun x => s.size - x.2.1) (s.size - a, a + 1, false) ?_ ?_ ?_
  · simp only [upd_apply, envOf_apply, Nat.reduceEqDiff, if_true, if_false, Bool.false_eq_true]
    exact ⟨by omega, by omega, ⟨by rw [Nat.add_sub_cancel]; exact hqp, rfl, by omega⟩, (by first | trivial | rfl | omega), (by first | trivial | rfl | omega), (by first | trivial | rfl | omega), (by first | trivial | rfl | omega)⟩
  · rintro ⟨k, e, m⟩ env τ ⟨g1, g2, hm, rfl, h5, hs1, hs0⟩
    simp only [] at g1 g2 hm h5
    have w2 : e < s.size → IntKind.i64.wrap ((e : Int) + 1) = ((e + 1 : Nat) : Int) := fun h => wrap64_succ (by simp only [big]; omega)
    have w3 : IntKind.i64.wrap ((e : Int) - 1) = ((e - 1 : Nat) : Int) := by rw [wrap64_in (by omega) (by omega)]; omega
    have hI := isInR_c s e
    have hI1 := isInR_c s (e + 1)
    have hI0 := isInR_c s (e - 1)
    cases m
    · simp only [Bool.false_eq_true, if_false] at hm
      obtain ⟨hpr, hp, hk⟩ := hm
      rw [hpr, decide_eq_true (show e - 1 < s.size by omega)] at hI0
      by_cases c1 : (e : Int) < s.size
      · have h3 : e < s.size := by omega
        obtain ⟨k, rfl⟩ : ∃ j, k = j + 1 := ⟨k - 1, by omega⟩
        rw [wordG_step, decide_eq_true h3, if_pos rfl] at hp
        rw [decide_eq_true h3, Bool.true_and] at hI
        simp -dsimp only [h5, hs1, hs0, exitR_exit, gate, decide_true, decide_false, Bool.not_true, Bool.not_false, bTT, bTF, bFT, bFF, ↓preB, postB, genB, ↓reduceIte, Nat.reduceEqDiff, Int.reduceToNat, Int.reduceLE, Int.reduceLT, Nat.reduceAdd, Nat.reduceLeDiff, intBin, strBin, unD, extractD, lit1, lit2, lit3, keptD, boxR, D.one, D.pub1, D.cells, splice, cutOwn]
        refine Fn.use hI ?_
        cases q1 : isPartI (byteAt s e)
        · rw [q1, if_neg (by decide)] at hp
          cases q2 : (byteAt s e == 39) <;> cases q3 : (byteAt s e == 45)
          · have hj : isJoinI (byteAt s e) = false := by unfold isJoinI; rw [q2, q3]; rfl
            rw [hj, Bool.false_and, Bool.false_and, if_neg (by decide)] at hp
            simp -dsimp only [h5, hs1, hs0, c1, h3, q1, q2, q3, hp, exitR_exit, gate, decide_true, decide_false, Bool.not_true, Bool.not_false, bTT, bTF, bFT, bFF, ↓preB, postB, genB, ↓reduceIte, Nat.reduceEqDiff, Int.reduceToNat, Int.reduceLE, Int.reduceLT, Nat.reduceAdd, Nat.reduceLeDiff, intBin, strBin, unD, extractD, lit1, lit2, lit3, keptD, boxR, D.one, D.pub1, D.cells, splice, cutOwn]
          all_goals
            have hj : isJoinI (byteAt s e) = true := by unfold isJoinI; rw [q2, q3]; rfl
            rw [hj, Bool.true_and] at hp
            simp -dsimp only [h5, hs1, hs0, c1, h3, q1, q2, q3, w2 h3, exitR_exit, gate, decide_true, decide_false, Bool.not_true, Bool.not_false, bTT, bTF, bFT, bFF, ↓preB, postB, genB, ↓reduceIte, Nat.reduceEqDiff, Int.reduceToNat, Int.reduceLE, Int.reduceLT, Nat.reduceAdd, Nat.reduceLeDiff, intBin, strBin, unD, extractD, lit1, lit2, lit3, keptD, boxR, D.one, D.pub1, D.cells, splice, cutOwn]
            intro hb
            refine Fn.use hI1 ?_
            cases q4 : (decide (e + 1 < s.size) && isPartI (byteAt s (e + 1)))
            · rw [q4, if_neg (by decide)] at hp
              simp -dsimp only [h5, hs1, hs0, c1, h3, q1, q2, q3, q4, w2 h3, hp, exitR_exit, gate, decide_true, decide_false, Bool.not_true, Bool.not_false, bTT, bTF, bFT, bFF, ↓preB, postB, genB, ↓reduceIte, Nat.reduceEqDiff, Int.reduceToNat, Int.reduceLE, Int.reduceLT, Nat.reduceAdd, Nat.reduceLeDiff, intBin, strBin, unD, extractD, lit1, lit2, lit3, keptD, boxR, D.one, D.pub1, D.cells, splice, cutOwn]
              try exact (by first | trivial | rfl | omega)
            · rw [q4, if_pos rfl] at hp
              simp -dsimp only [h5, hs1, hs0, c1, h3, q1, q2, q3, q4, w2 h3, w3, exitR_exit, gate, decide_true, decide_false, Bool.not_true, Bool.not_false, bTT, bTF, bFT, bFF, ↓preB, postB, genB, ↓reduceIte, Nat.reduceEqDiff, Int.reduceToNat, Int.reduceLE, Int.reduceLT, Nat.reduceAdd, Nat.reduceLeDiff, intBin, strBin, unD, extractD, lit1, lit2, lit3, keptD, boxR, D.one, D.pub1, D.cells, splice, cutOwn]
              refine Fn.use hI0 ?_
              simp only [Bool.and_eq_true, decide_eq_true_eq] at q4
              simp -dsimp only [h5, hs1, hs0, c1, h3, q1, q2, q3, w2 h3, w3, exitR_exit, Bool.true_and, gate, decide_true, decide_false, Bool.not_true, Bool.not_false, bTT, bTF, bFT, bFF, ↓preB, postB, genB, ↓reduceIte, Nat.reduceEqDiff, Int.reduceToNat, Int.reduceLE, Int.reduceLT, Nat.reduceAdd, Nat.reduceLeDiff, intBin, strBin, unD, extractD, lit1, lit2, lit3, keptD, boxR, D.one, D.pub1, D.cells, splice, cutOwn]
              exact ⟨(k, e + 1, true), ⟨by simp only []; omega, by simp only []; omega, by simp only [if_true]; exact ⟨q4.1, q4.2, hp, by omega⟩, rfl⟩, by simp only []; omega⟩
        · rw [q1, if_pos rfl] at hp
          simp -dsimp only [h5, hs1, hs0, q1, w2 h3, exitR_exit, gate, decide_true, decide_false, Bool.not_true, Bool.not_false, bTT, bTF, bFT, bFF, ↓preB, postB, genB, ↓reduceIte, Nat.reduceEqDiff, Int.reduceToNat, Int.reduceLE, Int.reduceLT, Nat.reduceAdd, Nat.reduceLeDiff, intBin, strBin, unD, extractD, lit1, lit2, lit3, keptD, boxR, D.one, D.pub1, D.cells, splice, cutOwn]
          exact ⟨(k, e + 1, false), ⟨by simp only []; omega, by simp only []; omega, by simp only [Bool.false_eq_true, if_false, Nat.add_sub_cancel]; exact ⟨q1, hp, by omega⟩, rfl⟩, by simp only []; omega⟩
      · have hE : wordF s a = e := by
          rw [hp]
          cases k with
          | zero => rfl
          | succ k => rw [wordG_step, decide_eq_false (by omega), if_neg (by decide)]
        rw [decide_eq_false (by omega), Bool.false_and] at hI
        simp -dsimp only [h5, hs1, hs0, exitR_exit, gate, decide_true, decide_false, Bool.not_true, Bool.not_false, bTT, bTF, bFT, bFF, ↓preB, postB, genB, ↓reduceIte, Nat.reduceEqDiff, Int.reduceToNat, Int.reduceLE, Int.reduceLT, Nat.reduceAdd, Nat.reduceLeDiff, intBin, strBin, unD, extractD, lit1, lit2, lit3, keptD, boxR, D.one, D.pub1, D.cells, splice, cutOwn]
        refine Fn.use hI ?_
        simp -dsimp only [h5, hs1, hs0, c1, hE, exitR_exit, gate, decide_true, decide_false, Bool.not_true, Bool.not_false, bTT, bTF, bFT, bFF, ↓preB, postB, genB, ↓reduceIte, Nat.reduceEqDiff, Int.reduceToNat, Int.reduceLE, Int.reduceLT, Nat.reduceAdd, Nat.reduceLeDiff, intBin, strBin, unD, extractD, lit1, lit2, lit3, keptD, boxR, D.one, D.pub1, D.cells, splice, cutOwn]
    · simp only [if_true] at hm
      obtain ⟨h3, hpr, hp, hk⟩ := hm
      rw [decide_eq_true h3, hpr, Bool.true_and] at hI
      simp -dsimp only [h5, hs1, hs0, exitR_exit, gate, decide_true, decide_false, Bool.not_true, Bool.not_false, bTT, bTF, bFT, bFF, ↓preB, postB, genB, ↓reduceIte, Nat.reduceEqDiff, Int.reduceToNat, Int.reduceLE, Int.reduceLT, Nat.reduceAdd, Nat.reduceLeDiff, intBin, strBin, unD, extractD, lit1, lit2, lit3, keptD, boxR, D.one, D.pub1, D.cells, splice, cutOwn]
      refine Fn.use hI ?_
      simp -dsimp only [h5, hs1, hs0, w2 h3, exitR_exit, gate, decide_true, decide_false, Bool.not_true, Bool.not_false, bTT, bTF, bFT, bFF, ↓preB, postB, genB, ↓reduceIte, Nat.reduceEqDiff, Int.reduceToNat, Int.reduceLE, Int.reduceLT, Nat.reduceAdd, Nat.reduceLeDiff, intBin, strBin, unD, extractD, lit1, lit2, lit3, keptD, boxR, D.one, D.pub1, D.cells, splice, cutOwn]
      exact ⟨(k, e + 1, false), ⟨by simp only []; omega, by simp only []; omega, by simp only [Bool.false_eq_true, if_false, Nat.add_sub_cancel]; exact ⟨hpr, hp, by omega⟩, rfl⟩, by simp only []; omega⟩
  · rintro env τ ⟨rfl, h5, hs1⟩
    have hle : wordF s a ≤ s.size := wordG_le s _ _ (by omega)
    have hg : a + 1 ≤ wordF s a := wordG_ge s _ _
    generalize wordF s a = e at *
    have w4 : IntKind.i64.wrap ((e : Int) - (a : Int)) = ((e - a : Nat) : Int) := by rw [wrap64_in (by omega) (by omega)]; omega
    simp -dsimp only [h5, hs1, w4, gate, decide_true, decide_false, Bool.not_true, Bool.not_false, bTT, bTF, bFT, bFF, ↓preB, postB, genB, ↓reduceIte, Nat.reduceEqDiff, Int.reduceToNat, Int.reduceLE, Int.reduceLT, Nat.reduceAdd, Nat.reduceLeDiff, intBin, strBin, unD, extractD, lit1, lit2, lit3, keptD, boxR, D.one, D.pub1, D.cells, splice, cutOwn]
    exact Ret.is rfl
end Go.Proofs.YtapkbkniooleaaaGreat.Vs
