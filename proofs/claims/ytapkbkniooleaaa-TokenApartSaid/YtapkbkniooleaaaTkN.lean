/- numbers of Ytapkbkniooleaaa -/
import Derived.Test.YtapkbkniooleaaaTkM
import Derived.Test.YtapkbkniooleaaaTkE
namespace Go.Proofs.Ytapkbkniooleaaa.Vs
set_option linter.unusedVariables false
set_option linter.unusedSimpArgs false
set_option maxRecDepth 100000
theorem digits_c (s : ByteArray) : Fn Zs 115 [.str s] (.int .i64 (digW s 0 : Nat)) := by
  refine fn_of (Z := Zs) ok115 fun σ hcl hbl => ?_
  simp -dsimp only [L115, ↓preB, postB, genB, ↓reduceIte, Nat.reduceEqDiff, Int.reduceToNat, Int.reduceLE, Int.reduceLT, Nat.reduceAdd, Nat.reduceLeDiff, intBin, strBin, unD, extractD, lit1, lit2, lit3, keptD, boxR, D.one, D.pub1, D.cells, splice, cutOwn]
  refine pwp_loopG (fun k env τ => k ≤ s.size ∧ digW s 0 = digW s k ∧ τ = σ ∧ env 3 = .int .i64 (k:Nat) ∧ env 0 = .str s) (fun k => s.size - k) 0 ?_ ?_
  · simp only [upd_apply, envOf_apply, Nat.reduceEqDiff, if_true, if_false]
    exact ⟨Nat.zero_le _, trivial, trivial, rfl, rfl⟩
  · rintro k env τ ⟨hk, hp, rfl, h3, h0⟩
    rcases Nat.lt_or_ge k s.size with hlt | hge
    · have hn : (k : Int) < s.size := by omega
      simp -dsimp only [h3, h0, hn, hlt, gate, decide_true, decide_false, Bool.not_true, Bool.not_false, bTT, bTF, bFT, bFF, ↓preB, postB, genB, ↓reduceIte, Nat.reduceEqDiff, Int.reduceToNat, Int.reduceLE, Int.reduceLT, Nat.reduceAdd, Nat.reduceLeDiff, intBin, strBin, unD, extractD, lit1, lit2, lit3, keptD, boxR, D.one, D.pub1, D.cells, splice, cutOwn]
      intro hbig
      refine Fn.use (isDigit_c _) ?_
      rw [digW_step hlt] at hp
      cases e1 : isDigitI (byteAt s k)
      · rw [e1] at hp
        simp -dsimp only [h3, h0, hn, hlt, e1, gate, decide_true, decide_false, Bool.not_true, Bool.not_false, bTT, bTF, bFT, bFF, ↓preB, postB, genB, ↓reduceIte, Nat.reduceEqDiff, Int.reduceToNat, Int.reduceLE, Int.reduceLT, Nat.reduceAdd, Nat.reduceLeDiff, intBin, strBin, unD, extractD, lit1, lit2, lit3, keptD, boxR, D.one, D.pub1, D.cells, splice, cutOwn]
        exact Ret.is (by rw [hp]; rfl)
      · rw [e1] at hp
        simp -dsimp only [h3, h0, hn, hlt, e1, gate, decide_true, decide_false, Bool.not_true, Bool.not_false, bTT, bTF, bFT, bFF, ↓preB, postB, genB, ↓reduceIte, Nat.reduceEqDiff, Int.reduceToNat, Int.reduceLE, Int.reduceLT, Nat.reduceAdd, Nat.reduceLeDiff, intBin, strBin, unD, extractD, lit1, lit2, lit3, keptD, boxR, D.one, D.pub1, D.cells, splice, cutOwn]
        exact ⟨k + 1, ⟨by omega, hp, wrap64_succ (by omega)⟩, by omega⟩
    · have hn : ¬ (k : Int) < s.size := by omega
      simp -dsimp only [h3, h0, hn, gate, decide_true, decide_false, Bool.not_true, Bool.not_false, bTT, bTF, bFT, bFF, ↓preB, postB, genB, ↓reduceIte, Nat.reduceEqDiff, Int.reduceToNat, Int.reduceLE, Int.reduceLT, Nat.reduceAdd, Nat.reduceLeDiff, intBin, strBin, unD, extractD, lit1, lit2, lit3, keptD, boxR, D.one, D.pub1, D.cells, splice, cutOwn]
      intro _
      exact Ret.is (by rw [hp, digW_end hge])
def numE (s : ByteArray) : Nat := if digW s 0 = 0 then 0 else numG s s.size (digW s 0)
theorem numW_eq (s : ByteArray) : numW s = if (decide (numE s < s.size) && isLetterI (byteAt s (numE s))) = true then 0 else numE s := by
  unfold numW numE
  by_cases h : digW s 0 = 0
  · rw [if_pos h, if_pos h]; split <;> rfl
  · rw [if_neg h, if_neg h]
theorem numE_le (s : ByteArray) : numE s ≤ s.size := by
  unfold numE
  split
  · omega
  · exact numG_le s _ _ (digW_le (Nat.zero_le _))
theorem numbers_c (s : ByteArray) : Fn Zs 114 [.agg [], .str s] (.int .i64 (numW s : Nat)) := by
  have hD := digits_c s
  refine fn_of (Z := Zs) ok114 fun σ hcl hbl => ?_
  simp -dsimp only [L114, ↓preB, postB, genB, ↓reduceIte, Nat.reduceEqDiff, Int.reduceToNat, Int.reduceLE, Int.reduceLT, Nat.reduceAdd, Nat.reduceLeDiff, intBin, strBin, unD, extractD, lit1, lit2, lit3, keptD, boxR, D.one, D.pub1, D.cells, splice, cutOwn]
  refine Fn.use hD ?_
  simp -dsimp only [↓preB, postB, genB, ↓reduceIte, Nat.reduceEqDiff, Int.reduceToNat, Int.reduceLE, Int.reduceLT, Nat.reduceAdd, Nat.reduceLeDiff, intBin, strBin, unD, extractD, lit1, lit2, lit3, keptD, boxR, D.one, D.pub1, D.cells, splice, cutOwn]
  refine pwp_loopJ 0 (fun e τ => τ = σ.new (.cells 45 []) ∧ e 5 = .int .i64 (numE s) ∧ e 1 = .str s) (fun (x : Nat × Nat) env τ => numE s = (if x.2 = 0 then 0 else numG s x.1 x.2) ∧ x.2 ≤ s.size ∧ s.size ≤ x.1 + x.2 ∧ τ = σ.new (.cells 45 []) ∧ env 5 = .int .i64 x.2 ∧ env 1 = .str s) (fun x => x.1) (s.size, digW s 0) ?_ ?_ ?_
  · simp only [upd_apply, envOf_apply, Nat.reduceEqDiff, if_true, if_false]
    exact ⟨(by first | trivial | rfl | omega), digW_le (Nat.zero_le _), (by first | trivial | rfl | omega), (by first | trivial | rfl | omega), (by first | trivial | rfl | omega), (by first | trivial | rfl | omega)⟩
  · rintro ⟨k, e⟩ env τ ⟨hp, h1, h2, rfl, h5, hs1⟩
    simp only [] at hp h1 h2 h5
    by_cases e0 : e = 0
    · subst e0
      have c0 : ¬ (0 : Int) < ((0 : Nat) : Int) := by omega
      rw [if_pos rfl] at hp
      simp -dsimp only [h5, hs1, c0, hp, exitR_exit, gate, decide_true, decide_false, Bool.not_true, Bool.not_false, bTT, bTF, bFT, bFF, ↓preB, postB, genB, ↓reduceIte, Nat.reduceEqDiff, Int.reduceToNat, Int.reduceLE, Int.reduceLT, Nat.reduceAdd, Nat.reduceLeDiff, intBin, strBin, unD, extractD, lit1, lit2, lit3, keptD, boxR, D.one, D.pub1, D.cells, splice, cutOwn]
    · have c0 : (0 : Int) < (e : Int) := by omega
      rw [if_neg e0] at hp
      by_cases c1 : (e : Int) < s.size
      · have h3 : e < s.size := by omega
        obtain ⟨k, rfl⟩ : ∃ j, k = j + 1 := ⟨k - 1, by omega⟩
        rw [numG_step, decide_eq_true h3, Bool.true_and] at hp
        have go : ∀ (K : D → Heap → Prop) (h : Keep K), (∀ x : Nat, x + (e + 1) = digW s (e + 1) → K (.int .i64 x) (σ.new (.cells 45 []))) → kCall Zs 115 [.str (s.extract (e + 1) s.size)] (σ.new (.cells 45 [])) K h := fun K h hk => by
          refine Fn.use (digits_c (sfx s (e + 1))) ?_
          refine hk _ ?_
          have := digW_sfx s (e + 1) 0
          simp only [Nat.add_zero] at this
          omega
        cases q1 : (byteAt s e == 46) <;> cases q2 : (byteAt s e == 44)
        · have hd : isDotI (byteAt s e) = false := by unfold isDotI; rw [q1, q2]; rfl
          rw [hd] at hp
          simp only [Bool.false_and, Bool.false_eq_true, if_false] at hp
          simp -dsimp only [h5, hs1, c0, c1, h3, q1, q2, hp, exitR_exit, gate, decide_true, decide_false, Bool.not_true, Bool.not_false, bTT, bTF, bFT, bFF, ↓preB, postB, genB, ↓reduceIte, Nat.reduceEqDiff, Int.reduceToNat, Int.reduceLE, Int.reduceLT, Nat.reduceAdd, Nat.reduceLeDiff, intBin, strBin, unD, extractD, lit1, lit2, lit3, keptD, boxR, D.one, D.pub1, D.cells, splice, cutOwn]
        all_goals
          have hd : isDotI (byteAt s e) = true := by unfold isDotI; rw [q1, q2]; rfl
          rw [hd, Bool.true_and] at hp
          simp -dsimp only [h5, hs1, c0, c1, h3, q1, q2, exitR_exit, gate, decide_true, decide_false, Bool.not_true, Bool.not_false, bTT, bTF, bFT, bFF, ↓preB, postB, genB, ↓reduceIte, Nat.reduceEqDiff, Int.reduceToNat, Int.reduceLE, Int.reduceLT, Nat.reduceAdd, Nat.reduceLeDiff, intBin, strBin, unD, extractD, lit1, lit2, lit3, keptD, boxR, D.one, D.pub1, D.cells, splice, cutOwn]
          intro hb
          have w1 : IntKind.i64.wrap ((e : Int) + 1) = ((e + 1 : Nat) : Int) := wrap64_succ (by omega)
          have c2 : (0 : Int) ≤ ((e + 1 : Nat) : Int) ∧ ((e + 1 : Nat) : Int) ≤ s.size := ⟨by omega, by omega⟩
          simp -dsimp only [w1, c2, gate, decide_true, decide_false, Bool.not_true, Bool.not_false, bTT, bTF, bFT, bFF, ↓preB, postB, genB, ↓reduceIte, Nat.reduceEqDiff, Int.reduceToNat, Int.reduceLE, Int.reduceLT, Nat.reduceAdd, Nat.reduceLeDiff, intBin, strBin, unD, extractD, lit1, lit2, lit3, keptD, boxR, D.one, D.pub1, D.cells, splice, cutOwn]
          refine ⟨Int.le_refl _, go _ _ fun x hx => ?_⟩
          simp -dsimp only [h5, hs1, gate, decide_true, decide_false, Bool.not_true, Bool.not_false, bTT, bTF, bFT, bFF, ↓preB, postB, genB, ↓reduceIte, Nat.reduceEqDiff, Int.reduceToNat, Int.reduceLE, Int.reduceLT, Nat.reduceAdd, Nat.reduceLeDiff, intBin, strBin, unD, extractD, lit1, lit2, lit3, keptD, boxR, D.one, D.pub1, D.cells, splice, cutOwn]
          by_cases x0 : x = 0
          · subst x0
            rw [decide_eq_false (by omega), if_neg (by decide)] at hp
            simp -dsimp only [h5, hs1, show (((0 : Nat) : Int) == 0) = true from rfl, hp, exitR_exit, gate, decide_true, decide_false, Bool.not_true, Bool.not_false, bTT, bTF, bFT, bFF, ↓preB, postB, genB, ↓reduceIte, Nat.reduceEqDiff, Int.reduceToNat, Int.reduceLE, Int.reduceLT, Nat.reduceAdd, Nat.reduceLeDiff, intBin, strBin, unD, extractD, lit1, lit2, lit3, keptD, boxR, D.one, D.pub1, D.cells, splice, cutOwn]
            done
          · have x1 : ((x : Int) == 0) = false := by simp only [beq_eq_false_iff_ne, ne_eq]; omega
            have h4 := digW_le (s := s) (n := e + 1) (by omega)
            have h6 : e + 1 < digW s (e + 1) := by omega
            rw [decide_eq_true h6, if_pos rfl] at hp
            simp only [big] at hb
            have w2 : IntKind.i64.wrap ((x : Int) + 1) = ((x + 1 : Nat) : Int) := wrap64_succ (by simp only [big]; omega)
            have w3 : IntKind.i64.wrap ((e : Int) + ((x + 1 : Nat) : Int)) = ((digW s (e + 1) : Nat) : Int) := by rw [wrap64_in (by omega) (by omega)]; omega
            simp -dsimp only [h5, hs1, x1, w2, w3, exitR_exit, gate, decide_true, decide_false, Bool.not_true, Bool.not_false, bTT, bTF, bFT, bFF, ↓preB, postB, genB, ↓reduceIte, Nat.reduceEqDiff, Int.reduceToNat, Int.reduceLE, Int.reduceLT, Nat.reduceAdd, Nat.reduceLeDiff, intBin, strBin, unD, extractD, lit1, lit2, lit3, keptD, boxR, D.one, D.pub1, D.cells, splice, cutOwn]
            exact ⟨(k, digW s (e + 1)), ⟨by simp only []; rw [if_neg (by omega)]; exact hp, h4, by simp only []; omega, rfl⟩, by simp only []; omega⟩
      · simp -dsimp only [h5, hs1, c0, c1, exitR_exit, gate, decide_true, decide_false, Bool.not_true, Bool.not_false, bTT, bTF, bFT, bFF, ↓preB, postB, genB, ↓reduceIte, Nat.reduceEqDiff, Int.reduceToNat, Int.reduceLE, Int.reduceLT, Nat.reduceAdd, Nat.reduceLeDiff, intBin, strBin, unD, extractD, lit1, lit2, lit3, keptD, boxR, D.one, D.pub1, D.cells, splice, cutOwn]
        have : numE s = e := by
          rw [hp]
          cases k with
          | zero => rfl
          | succ k => rw [numG_step, decide_eq_false (by omega), Bool.false_and, Bool.false_and, if_neg (by decide)]
        rw [this]
        exact fun _ => (by first | trivial | rfl | omega)
  · rintro env τ ⟨rfl, h5, hs1⟩
    rw [numW_eq]
    have hle := numE_le s
    generalize numE s = e at *
    have done : ∀ x : Int, Ret σ (fun d τ => d = .int .i64 x ∧ τ = σ) (.int .i64 x) (σ.new (.cells 45 [])) := fun x => Ret.isH (HLe.self_new _ hcl) hcl rfl (.int _ _)
    by_cases c1 : (e : Int) < s.size
    · have h3 : e < s.size := by omega
      rw [decide_eq_true h3, Bool.true_and]
      simp -dsimp only [h5, hs1, c1, h3, gate, decide_true, decide_false, Bool.not_true, Bool.not_false, bTT, bTF, bFT, bFF, ↓preB, postB, genB, ↓reduceIte, Nat.reduceEqDiff, Int.reduceToNat, Int.reduceLE, Int.reduceLT, Nat.reduceAdd, Nat.reduceLeDiff, intBin, strBin, unD, extractD, lit1, lit2, lit3, keptD, boxR, D.one, D.pub1, D.cells, splice, cutOwn]
      intro hb
      refine Fn.use (isLetter_c _) ?_
      cases q : isLetterI (byteAt s e)
      · simp -dsimp only [h5, hs1, q, gate, decide_true, decide_false, Bool.not_true, Bool.not_false, bTT, bTF, bFT, bFF, ↓preB, postB, genB, ↓reduceIte, Nat.reduceEqDiff, Int.reduceToNat, Int.reduceLE, Int.reduceLT, Nat.reduceAdd, Nat.reduceLeDiff, intBin, strBin, unD, extractD, lit1, lit2, lit3, keptD, boxR, D.one, D.pub1, D.cells, splice, cutOwn]
        exact done _
      · simp -dsimp only [h5, hs1, q, gate, decide_true, decide_false, Bool.not_true, Bool.not_false, bTT, bTF, bFT, bFF, ↓preB, postB, genB, ↓reduceIte, Nat.reduceEqDiff, Int.reduceToNat, Int.reduceLE, Int.reduceLT, Nat.reduceAdd, Nat.reduceLeDiff, intBin, strBin, unD, extractD, lit1, lit2, lit3, keptD, boxR, D.one, D.pub1, D.cells, splice, cutOwn]
        exact done _
    · have h3 : ¬ e < s.size := by omega
      rw [decide_eq_false h3, Bool.false_and]
      simp -dsimp only [h5, hs1, c1, h3, gate, decide_true, decide_false, Bool.not_true, Bool.not_false, bTT, bTF, bFT, bFF, ↓preB, postB, genB, ↓reduceIte, Nat.reduceEqDiff, Int.reduceToNat, Int.reduceLE, Int.reduceLT, Nat.reduceAdd, Nat.reduceLeDiff, intBin, strBin, unD, extractD, lit1, lit2, lit3, keptD, boxR, D.one, D.pub1, D.cells, splice, cutOwn]
      intro hb
      exact done _
theorem ba_extK {a b : ByteArray} (h : a.data.toList = b.data.toList) : a = b := by cases a; cases b; congr 1; exact Array.toList_inj.1 h
theorem wordlike_c (s : ByteArray) : Fn Zs 116 [.agg [], .str s] (.int .i64 (wordW s : Nat)) := by
  refine fn_of (Z := Zs) ok116 fun σ hcl hbl => ?_
  simp -dsimp only [L116, ↓preB, postB, genB, ↓reduceIte, Nat.reduceEqDiff, Int.reduceToNat, Int.reduceLE, Int.reduceLT, Nat.reduceAdd, Nat.reduceLeDiff, intBin, strBin, unD, extractD, lit1, lit2, lit3, keptD, boxR, D.one, D.pub1, D.cells, splice, cutOwn]
  have done : ∀ x : Int, Ret σ (fun d τ => d = .int .i64 x ∧ τ = σ) (.int .i64 x) (σ.new (.cells 46 [])) := fun x => Ret.isH (HLe.self_new _ hcl) hcl rfl (.int _ _)
  by_cases hs : s.size = 0
  · have e0 : s = ⟨#[]⟩ := ba_extK (List.eq_nil_of_length_eq_zero hs)
    have hw : wordW s = 0 := by unfold wordW; rw [decide_eq_false (by omega), Bool.false_and, if_neg (by decide)]
    have c0 : (s == (⟨#[]⟩ : ByteArray)) = true := by rw [e0]; rfl
    rw [hw]
    simp -dsimp only [c0, gate, decide_true, decide_false, Bool.not_true, Bool.not_false, bTT, bTF, bFT, bFF, ↓preB, postB, genB, ↓reduceIte, Nat.reduceEqDiff, Int.reduceToNat, Int.reduceLE, Int.reduceLT, Nat.reduceAdd, Nat.reduceLeDiff, intBin, strBin, unD, extractD, lit1, lit2, lit3, keptD, boxR, D.one, D.pub1, D.cells, splice, cutOwn]
    exact done _
  have c0 : (s == (⟨#[]⟩ : ByteArray)) = false := by
    rw [Bool.eq_false_iff]
    intro h
    exact hs (by rw [ba_eq h]; rfl)
  have c1 : (0 : Int) < s.size := by omega
  have h0 : 0 < s.size := by omega
  have hw : wordW s = if isLetterI (byteAt s 0) = true then wordG s s.size 1 else 0 := by unfold wordW; rw [decide_eq_true h0, Bool.true_and]
  rw [hw]
  simp -dsimp only [c0, c1, h0, gate, decide_true, decide_false, Bool.not_true, Bool.not_false, bTT, bTF, bFT, bFF, ↓preB, postB, genB, ↓reduceIte, Nat.reduceEqDiff, Int.reduceToNat, Int.reduceLE, Int.reduceLT, Nat.reduceAdd, Nat.reduceLeDiff, intBin, strBin, unD, extractD, lit1, lit2, lit3, keptD, boxR, D.one, D.pub1, D.cells, splice, cutOwn]
  refine Fn.use (isLetter_c _) ?_
  cases q : isLetterI (byteAt s 0)
  · simp -dsimp only [c0, q, gate, decide_true, decide_false, Bool.not_true, Bool.not_false, bTT, bTF, bFT, bFF, ↓preB, postB, genB, ↓reduceIte, Nat.reduceEqDiff, Int.reduceToNat, Int.reduceLE, Int.reduceLT, Nat.reduceAdd, Nat.reduceLeDiff, intBin, strBin, unD, extractD, lit1, lit2, lit3, keptD, boxR, D.one, D.pub1, D.cells, splice, cutOwn]
    exact done _
  simp -dsimp only [c0, q, gate, decide_true, decide_false, Bool.not_true, Bool.not_false, bTT, bTF, bFT, bFF, ↓preB, postB, genB, ↓reduceIte, Nat.reduceEqDiff, Int.reduceToNat, Int.reduceLE, Int.reduceLT, Nat.reduceAdd, Nat.reduceLeDiff, intBin, strBin, unD, extractD, lit1, lit2, lit3, keptD, boxR, D.one, D.pub1, D.cells, splice, cutOwn]
  refine pwp_loopJ 0 (fun e τ => τ = σ.new (.cells 46 []) ∧ e 5 = .int .i64 (wordG s s.size 1 : Nat)) (fun (x : Nat × Nat) env τ => wordG s s.size 1 = wordG s x.1 x.2 ∧ x.2 ≤ s.size ∧ s.size ≤ x.1 + x.2 ∧ τ = σ.new (.cells 46 []) ∧ env 5 = .int .i64 x.2 ∧ env 1 = .str s) (fun x => x.1) (s.size, 1) ?_ ?_ ?_
  · simp only [upd_apply, envOf_apply, Nat.reduceEqDiff, if_true, if_false]
    exact ⟨(by first | trivial | rfl | omega), (by first | trivial | rfl | omega), (by first | trivial | rfl | omega), (by first | trivial | rfl | omega), (by first | trivial | rfl | omega), (by first | trivial | rfl | omega)⟩
  · rintro ⟨k, e⟩ env τ ⟨hp, h1, h2, rfl, h5, hs1⟩
    simp only [] at hp h1 h2 h5
    by_cases c2 : (e : Int) < s.size
    · have h3 : e < s.size := by omega
      obtain ⟨k, rfl⟩ : ∃ j, k = j + 1 := ⟨k - 1, by omega⟩
      rw [wordG_step, decide_eq_true h3, if_pos rfl] at hp
      simp -dsimp only [h5, hs1, c2, h3, exitR_exit, gate, decide_true, decide_false, Bool.not_true, Bool.not_false, bTT, bTF, bFT, bFF, ↓preB, postB, genB, ↓reduceIte, Nat.reduceEqDiff, Int.reduceToNat, Int.reduceLE, Int.reduceLT, Nat.reduceAdd, Nat.reduceLeDiff, intBin, strBin, unD, extractD, lit1, lit2, lit3, keptD, boxR, D.one, D.pub1, D.cells, splice, cutOwn]
      intro hb
      refine Fn.use (isPart_c _) ?_
      simp only [big] at hb
      have w1 : IntKind.i64.wrap ((e : Int) + 1) = ((e + 1 : Nat) : Int) := wrap64_succ (by simp only [big]; omega)
      cases q1 : isPartI (byteAt s e)
      · rw [q1, if_neg (by decide)] at hp
        cases q2 : (byteAt s e == 39) <;> cases q3 : (byteAt s e == 45)
        · have hj : isJoinI (byteAt s e) = false := by unfold isJoinI; rw [q2, q3]; rfl
          rw [hj, Bool.false_and, Bool.false_and, if_neg (by decide)] at hp
          simp -dsimp only [h5, hs1, h3, q1, q2, q3, hp, exitR_ret, gate, decide_true, decide_false, Bool.not_true, Bool.not_false, bTT, bTF, bFT, bFF, ↓preB, postB, genB, ↓reduceIte, Nat.reduceEqDiff, Int.reduceToNat, Int.reduceLE, Int.reduceLT, Nat.reduceAdd, Nat.reduceLeDiff, intBin, strBin, unD, extractD, lit1, lit2, lit3, keptD, boxR, D.one, D.pub1, D.cells, splice, cutOwn]
          exact done _
        all_goals
          have hj : isJoinI (byteAt s e) = true := by unfold isJoinI; rw [q2, q3]; rfl
          rw [hj, Bool.true_and] at hp
          by_cases c3 : ((e + 1 : Nat) : Int) < s.size
          · have h4 : e + 1 < s.size := by omega
            rw [decide_eq_true h4, Bool.true_and] at hp
            simp -dsimp only [h5, hs1, h3, q1, q2, q3, w1, c3, h4, exitR_ret, gate, decide_true, decide_false, Bool.not_true, Bool.not_false, bTT, bTF, bFT, bFF, ↓preB, postB, genB, ↓reduceIte, Nat.reduceEqDiff, Int.reduceToNat, Int.reduceLE, Int.reduceLT, Nat.reduceAdd, Nat.reduceLeDiff, intBin, strBin, unD, extractD, lit1, lit2, lit3, keptD, boxR, D.one, D.pub1, D.cells, splice, cutOwn]
            intro _
            refine Fn.use (isPart_c _) ?_
            cases q4 : isPartI (byteAt s (e + 1))
            · rw [q4, if_neg (by decide)] at hp
              simp -dsimp only [h5, hs1, q1, q2, q3, q4, w1, c3, h4, hp, exitR_ret, gate, decide_true, decide_false, Bool.not_true, Bool.not_false, bTT, bTF, bFT, bFF, ↓preB, postB, genB, ↓reduceIte, Nat.reduceEqDiff, Int.reduceToNat, Int.reduceLE, Int.reduceLT, Nat.reduceAdd, Nat.reduceLeDiff, intBin, strBin, unD, extractD, lit1, lit2, lit3, keptD, boxR, D.one, D.pub1, D.cells, splice, cutOwn]
              exact done _
            · rw [q4, if_pos rfl] at hp
              have w2 : IntKind.i64.wrap ((e : Int) + 2) = ((e + 2 : Nat) : Int) := by rw [wrap64_in (by omega) (by omega)]; omega
              simp -dsimp only [h5, hs1, q1, q2, q3, q4, w1, w2, c3, h4, exitR_ret, gate, decide_true, decide_false, Bool.not_true, Bool.not_false, bTT, bTF, bFT, bFF, ↓preB, postB, genB, ↓reduceIte, Nat.reduceEqDiff, Int.reduceToNat, Int.reduceLE, Int.reduceLT, Nat.reduceAdd, Nat.reduceLeDiff, intBin, strBin, unD, extractD, lit1, lit2, lit3, keptD, boxR, D.one, D.pub1, D.cells, splice, cutOwn]
              exact ⟨(k, e + 2), ⟨hp, by simp only []; omega, by simp only []; omega, (by first | trivial | rfl | omega)⟩, by simp only []; omega⟩
          · have h4 : ¬ e + 1 < s.size := by omega
            rw [decide_eq_false h4, Bool.false_and, if_neg (by decide)] at hp
            simp -dsimp only [h5, hs1, h3, q1, q2, q3, w1, c3, h4, hp, exitR_ret, gate, decide_true, decide_false, Bool.not_true, Bool.not_false, bTT, bTF, bFT, bFF, ↓preB, postB, genB, ↓reduceIte, Nat.reduceEqDiff, Int.reduceToNat, Int.reduceLE, Int.reduceLT, Nat.reduceAdd, Nat.reduceLeDiff, intBin, strBin, unD, extractD, lit1, lit2, lit3, keptD, boxR, D.one, D.pub1, D.cells, splice, cutOwn]
            exact fun _ => done _
      · rw [q1, if_pos rfl] at hp
        simp -dsimp only [h5, hs1, q1, w1, exitR_exit, gate, decide_true, decide_false, Bool.not_true, Bool.not_false, bTT, bTF, bFT, bFF, ↓preB, postB, genB, ↓reduceIte, Nat.reduceEqDiff, Int.reduceToNat, Int.reduceLE, Int.reduceLT, Nat.reduceAdd, Nat.reduceLeDiff, intBin, strBin, unD, extractD, lit1, lit2, lit3, keptD, boxR, D.one, D.pub1, D.cells, splice, cutOwn]
        exact ⟨(k, e + 1), ⟨hp, by simp only []; omega, by simp only []; omega, (by first | trivial | rfl | omega)⟩, by simp only []; omega⟩
    · have : wordG s s.size 1 = e := by
        rw [hp]
        cases k with
        | zero => rfl
        | succ k => rw [wordG_step, decide_eq_false (by omega), if_neg (by decide)]
      simp -dsimp only [h5, hs1, c2, this, exitR_exit, gate, decide_true, decide_false, Bool.not_true, Bool.not_false, bTT, bTF, bFT, bFF, ↓preB, postB, genB, ↓reduceIte, Nat.reduceEqDiff, Int.reduceToNat, Int.reduceLE, Int.reduceLT, Nat.reduceAdd, Nat.reduceLeDiff, intBin, strBin, unD, extractD, lit1, lit2, lit3, keptD, boxR, D.one, D.pub1, D.cells, splice, cutOwn]
  · rintro env τ ⟨rfl, h5⟩
    simp -dsimp only [h5, gate, decide_true, decide_false, Bool.not_true, Bool.not_false, bTT, bTF, bFT, bFF, ↓preB, postB, genB, ↓reduceIte, Nat.reduceEqDiff, Int.reduceToNat, Int.reduceLE, Int.reduceLT, Nat.reduceAdd, Nat.reduceLeDiff, intBin, strBin, unD, extractD, lit1, lit2, lit3, keptD, boxR, D.one, D.pub1, D.cells, splice, cutOwn]
    exact done _
theorem sign_c (s : ByteArray) : Fn Zs 117 [.agg [], .str s] (.int .i64 1) := by
  refine fn_of (Z := Zs) ok117 fun σ hcl hbl => ?_
  simp -dsimp only [L117, ↓preB, postB, genB, ↓reduceIte, Nat.reduceEqDiff, Int.reduceToNat, Int.reduceLE, Int.reduceLT, Nat.reduceAdd, Nat.reduceLeDiff, intBin, strBin, unD, extractD, lit1, lit2, lit3, keptD, boxR, D.one, D.pub1, D.cells, splice, cutOwn]
  exact Ret.isH (HLe.self_new _ hcl) hcl rfl (.int _ _)
theorem unitS_eq (t : ByteArray) (b : Nat) (x : ByteArray) : unitS t b x = if (decide (b < x.size) && matchU t x && (decide (x.size = t.size) || !isPartI (byteAt t x.size) || !isPartI (byteAt x (x.size - 1)))) = true then x.size else b := rfl
theorem units_c (l : Wd) (s : ByteArray) : Fn Zs 110 [encSS l, .str s] (.int .i64 (unitW l s : Nat)) := by
  refine fn_of (Z := Zs) ok110 fun σ hcl hbl => ?_
  simp -dsimp only [L110, encSS, ↓preB, postB, genB, ↓reduceIte, Nat.reduceEqDiff, Int.reduceToNat, Int.reduceLE, Int.reduceLT, Nat.reduceAdd, Nat.reduceLeDiff, intBin, strBin, unD, extractD, lit1, lit2, lit3, keptD, boxR, D.one, D.pub1, D.cells, splice, cutOwn]
  intros
  refine pwp_loopJ 0 (fun e τ => τ = σ ∧ e 5 = .int .i64 (unitW l s : Nat)) (fun k env τ => k ≤ l.length ∧ unitW l s = (l.drop k).foldl (unitS s) ((l.take k).foldl (unitS s) 0) ∧ τ = σ ∧ env 11 = .int .i64 (k:Nat) ∧ env 5 = .int .i64 ((l.take k).foldl (unitS s) 0 : Nat) ∧ env 10 = .int .i64 l.length ∧ env 9 = encSS l ∧ env 1 = .str s) (fun k => l.length - k) 0 ?_ ?_ ?_
  · simp [upd_apply, envOf, encSS, unitW]
  · rintro k env τ ⟨hk, hp, rfl, h11, h5, h10, h9, h1⟩
    rcases Nat.lt_or_ge k l.length with hlt | hge
    · have hx : l[k]? = some l[k] := List.getElem?_eq_getElem hlt
      have hn : (k : Int) < l.length := by omega
      rw [List.drop_eq_getElem_cons hlt, List.foldl_cons] at hp
      have ht : (l.take (k + 1)).foldl (unitS s) 0 = unitS s ((l.take k).foldl (unitS s) 0) l[k] := by
        rw [List.take_succ_eq_append_getElem hlt, List.foldl_append]; rfl
      rw [← ht] at hp
      generalize hb : (l.take k).foldl (unitS s) 0 = b at h5 ht
      generalize hxx : l[k] = x at hx ht
      rw [unitS_eq] at ht
      have nxt : ∀ v : Nat, (if (decide (b < x.size) && matchU s x && (decide (x.size = s.size) || !isPartI (byteAt s x.size) || !isPartI (byteAt x (x.size - 1)))) = true then x.size else b) = v → ∃ y, (y ≤ l.length ∧ unitW l s = (l.drop y).foldl (unitS s) ((l.take y).foldl (unitS s) 0) ∧ IntKind.i64.wrap ((k : Int) + 1) = ((y : Nat) : Int) ∧ ((v : Nat) : Int) = (((l.take y).foldl (unitS s) 0 : Nat) : Int)) ∧ l.length - y < l.length - k := fun v hv => ⟨k + 1, ⟨by omega, hp, wrap64_succ (by omega), by rw [ht, hv]⟩, by omega⟩
      have hl0 : 0 < l.length := by omega
      by_cases c1 : (x.size : Int) ≤ b
      · have nx := nxt b (by rw [decide_eq_false (by omega), Bool.false_and, Bool.false_and, if_neg (by decide)])
        simp -dsimp only [h11, h5, h10, h9, h1, hn, hlt, hx, hl0, encSS, exitR_exit, gate, decide_true, decide_false, Bool.not_true, Bool.not_false, bTT, bTF, bFT, bFF, ↓preB, postB, genB, ↓reduceIte, Nat.reduceEqDiff, Int.reduceToNat, Int.reduceLE, Int.reduceLT, Nat.reduceAdd, Nat.reduceLeDiff, intBin, strBin, unD, extractD, lit1, lit2, lit3, keptD, boxR, D.one, D.pub1, D.cells, splice, cutOwn]
        intros
        refine draw_s ?_
        simp -dsimp only [h11, h5, h10, h9, h1, hn, hlt, hx, c1, encSS, exitR_exit, gate, decide_true, decide_false, Bool.not_true, Bool.not_false, bTT, bTF, bFT, bFF, ↓preB, postB, genB, ↓reduceIte, Nat.reduceEqDiff, Int.reduceToNat, Int.reduceLE, Int.reduceLT, Nat.reduceAdd, Nat.reduceLeDiff, intBin, strBin, unD, extractD, lit1, lit2, lit3, keptD, boxR, D.one, D.pub1, D.cells, splice, cutOwn]
        exact nx
      · have c2 : b < x.size := by omega
        rw [decide_eq_true c2, Bool.true_and] at nxt
        by_cases c3 : (s.size : Int) < x.size
        · have nx := nxt b (by unfold matchU; rw [decide_eq_false (by omega), Bool.false_and, Bool.false_and, Bool.false_and, if_neg (by decide)])
          simp -dsimp only [h11, h5, h10, h9, h1, hn, hlt, hx, hl0, encSS, exitR_exit, gate, decide_true, decide_false, Bool.not_true, Bool.not_false, bTT, bTF, bFT, bFF, ↓preB, postB, genB, ↓reduceIte, Nat.reduceEqDiff, Int.reduceToNat, Int.reduceLE, Int.reduceLT, Nat.reduceAdd, Nat.reduceLeDiff, intBin, strBin, unD, extractD, lit1, lit2, lit3, keptD, boxR, D.one, D.pub1, D.cells, splice, cutOwn]
          intros
          refine draw_s ?_
          simp -dsimp only [h11, h5, h10, h9, h1, hn, hlt, hx, c1, c3, encSS, exitR_exit, gate, decide_true, decide_false, Bool.not_true, Bool.not_false, bTT, bTF, bFT, bFF, ↓preB, postB, genB, ↓reduceIte, Nat.reduceEqDiff, Int.reduceToNat, Int.reduceLE, Int.reduceLT, Nat.reduceAdd, Nat.reduceLeDiff, intBin, strBin, unD, extractD, lit1, lit2, lit3, keptD, boxR, D.one, D.pub1, D.cells, splice, cutOwn]
          exact nx
        have c4 : x.size ≤ s.size := by omega
        have hM : matchU s x = ((s.extract 1 x.size == x.extract 1 x.size) && (byteAt s 0 == byteAt x 0 || (isSmallI (byteAt x 0) && byteAt s 0 == byteAt x 0 - 32))) := by unfold matchU; rw [decide_eq_true c4, Bool.true_and]
        rw [hM] at nxt
        have c5 : (1 : Int) ≤ x.size ∧ (x.size : Int) ≤ s.size := ⟨by omega, by omega⟩
        have c6 : (0 : Int) < s.size := by omega
        have c7 : (0 : Int) < x.size := by omega
        have c8 : 0 < s.size := by omega
        have c9 : 0 < x.size := by omega
        simp -dsimp only [h11, h5, h10, h9, h1, hn, hlt, hx, hl0, encSS, exitR_exit, gate, decide_true, decide_false, Bool.not_true, Bool.not_false, bTT, bTF, bFT, bFF, ↓preB, postB, genB, ↓reduceIte, Nat.reduceEqDiff, Int.reduceToNat, Int.reduceLE, Int.reduceLT, Nat.reduceAdd, Nat.reduceLeDiff, intBin, strBin, unD, extractD, lit1, lit2, lit3, keptD, boxR, D.one, D.pub1, D.cells, splice, cutOwn]
        intro hb
        refine draw_sR (fun e => e 54 = .bool (!matchU s x) ∧ e 8 = .int .i64 x.size ∧ e 7 = .str x ∧ e 1 = .str s ∧ e 5 = .int .i64 b ∧ e 11 = .int .i64 k ∧ e 10 = .int .i64 l.length ∧ e 9 = encSS l) ?_ ?_
        · have c10 : (x.size : Int) ≤ x.size := Int.le_refl _
          rw [hM]
          cases q1 : (s.extract 1 x.size == x.extract 1 x.size)
          · simp -dsimp only [h11, h5, h10, h9, h1, hn, hlt, hx, c1, c3, c5, c10, q1, encSS, gate, decide_true, decide_false, Bool.not_true, Bool.not_false, bTT, bTF, bFT, bFF, ↓preB, postB, genB, ↓reduceIte, Nat.reduceEqDiff, Int.reduceToNat, Int.reduceLE, Int.reduceLT, Nat.reduceAdd, Nat.reduceLeDiff, intBin, strBin, unD, extractD, lit1, lit2, lit3, keptD, boxR, D.one, D.pub1, D.cells, splice, cutOwn]
            rfl
          have w0 : (byteAt s 0 == byteAt x 0) = !(byteAt s 0 != byteAt x 0) := by simp [bne]
          rw [w0]
          cases q2 : (byteAt s 0 != byteAt x 0)
          · simp -dsimp only [h11, h5, h10, h9, h1, hn, hlt, hx, c1, c3, c5, c6, c7, c8, c9, c10, q1, q2, encSS, gate, decide_true, decide_false, Bool.not_true, Bool.not_false, bTT, bTF, bFT, bFF, ↓preB, postB, genB, ↓reduceIte, Nat.reduceEqDiff, Int.reduceToNat, Int.reduceLE, Int.reduceLT, Nat.reduceAdd, Nat.reduceLeDiff, intBin, strBin, unD, extractD, lit1, lit2, lit3, keptD, boxR, D.one, D.pub1, D.cells, splice, cutOwn]
            rfl
          · have hS := isSmall_c (byteAt x 0)
            simp -dsimp only [h11, h5, h10, h9, h1, hn, hlt, hx, c1, c3, c5, c6, c7, c8, c9, c10, q1, q2, encSS, gate, decide_true, decide_false, Bool.not_true, Bool.not_false, bTT, bTF, bFT, bFF, ↓preB, postB, genB, ↓reduceIte, Nat.reduceEqDiff, Int.reduceToNat, Int.reduceLE, Int.reduceLT, Nat.reduceAdd, Nat.reduceLeDiff, intBin, strBin, unD, extractD, lit1, lit2, lit3, keptD, boxR, D.one, D.pub1, D.cells, splice, cutOwn]
            refine Fn.useS hS ?_
            cases q3 : isSmallI (byteAt x 0)
            · simp -dsimp only [h11, h5, h10, h9, h1, hn, hlt, hx, c1, c3, c5, c6, c7, c8, c9, q1, q2, q3, encSS, gate, decide_true, decide_false, Bool.not_true, Bool.not_false, bTT, bTF, bFT, bFF, ↓preB, postB, genB, ↓reduceIte, Nat.reduceEqDiff, Int.reduceToNat, Int.reduceLE, Int.reduceLT, Nat.reduceAdd, Nat.reduceLeDiff, intBin, strBin, unD, extractD, lit1, lit2, lit3, keptD, boxR, D.one, D.pub1, D.cells, splice, cutOwn]
              rfl
            · have hwr : IntKind.u8.wrap (byteAt x 0 - 32) = byteAt x 0 - 32 := by
                simp only [isSmallI, Bool.and_eq_true, decide_eq_true_eq] at q3
                exact wrap8_in (by omega) (by omega)
              simp -dsimp only [h11, h5, h10, h9, h1, hn, hlt, hx, c1, c3, c5, c6, c7, c8, c9, q1, q2, q3, hwr, encSS, gate, decide_true, decide_false, Bool.not_true, Bool.not_false, bTT, bTF, bFT, bFF, ↓preB, postB, genB, ↓reduceIte, Nat.reduceEqDiff, Int.reduceToNat, Int.reduceLE, Int.reduceLT, Nat.reduceAdd, Nat.reduceLeDiff, intBin, strBin, unD, extractD, lit1, lit2, lit3, keptD, boxR, D.one, D.pub1, D.cells, splice, cutOwn]
              cases (byteAt s 0 == byteAt x 0 - 32) <;> rfl
        · rintro e ⟨h54, g8, g7, g1, g5, g11, g10, g9⟩
          rw [← hM] at nxt
          cases q : matchU s x
          · have nx := nxt b (by rw [q]; rfl)
            simp -dsimp only [h54, g8, g7, g1, g5, g11, g10, g9, q, encSS, exitR_exit, gate, decide_true, decide_false, Bool.not_true, Bool.not_false, bTT, bTF, bFT, bFF, ↓preB, postB, genB, ↓reduceIte, Nat.reduceEqDiff, Int.reduceToNat, Int.reduceLE, Int.reduceLT, Nat.reduceAdd, Nat.reduceLeDiff, intBin, strBin, unD, extractD, lit1, lit2, lit3, keptD, boxR, D.one, D.pub1, D.cells, splice, cutOwn]
            exact nx
          · rw [q, Bool.true_and] at nxt
            by_cases e1 : x.size = s.size
            · have nx := nxt x.size (by rw [decide_eq_true e1]; rfl)
              have r1 : ((x.size : Int) == (s.size : Int)) = true := by rw [e1]; simp
              simp -dsimp only [h54, g8, g7, g1, g5, g11, g10, g9, q, r1, encSS, exitR_exit, gate, decide_true, decide_false, Bool.not_true, Bool.not_false, bTT, bTF, bFT, bFF, ↓preB, postB, genB, ↓reduceIte, Nat.reduceEqDiff, Int.reduceToNat, Int.reduceLE, Int.reduceLT, Nat.reduceAdd, Nat.reduceLeDiff, intBin, strBin, unD, extractD, lit1, lit2, lit3, keptD, boxR, D.one, D.pub1, D.cells, splice, cutOwn]
              exact fun _ => nx
            · have r1 : ((x.size : Int) == (s.size : Int)) = false := by simp only [beq_eq_false_iff_ne, ne_eq]; omega
              have r2 : x.size < s.size := by omega
              rw [decide_eq_false e1, Bool.false_or] at nxt
              simp -dsimp only [h54, g8, g7, g1, g5, g11, g10, g9, q, r1, r2, encSS, exitR_exit, gate, decide_true, decide_false, Bool.not_true, Bool.not_false, bTT, bTF, bFT, bFF, ↓preB, postB, genB, ↓reduceIte, Nat.reduceEqDiff, Int.reduceToNat, Int.reduceLE, Int.reduceLT, Nat.reduceAdd, Nat.reduceLeDiff, intBin, strBin, unD, extractD, lit1, lit2, lit3, keptD, boxR, D.one, D.pub1, D.cells, splice, cutOwn]
              intro hbs
              refine Fn.use (isPart_c _) ?_
              cases r3 : isPartI (byteAt s x.size)
              · have nx := nxt x.size (by rw [r3]; rfl)
                simp -dsimp only [h54, g8, g7, g1, g5, g11, g10, g9, q, r1, r2, r3, encSS, exitR_exit, gate, decide_true, decide_false, Bool.not_true, Bool.not_false, bTT, bTF, bFT, bFF, ↓preB, postB, genB, ↓reduceIte, Nat.reduceEqDiff, Int.reduceToNat, Int.reduceLE, Int.reduceLT, Nat.reduceAdd, Nat.reduceLeDiff, intBin, strBin, unD, extractD, lit1, lit2, lit3, keptD, boxR, D.one, D.pub1, D.cells, splice, cutOwn]
                exact nx
              · rw [r3, Bool.not_true, Bool.false_or] at nxt
                have hw : IntKind.i64.wrap ((x.size : Int) - 1) = ((x.size - 1 : Nat) : Int) := by simp only [big] at hb; rw [wrap64_in (by omega) (by omega)]; omega
                have r4 : x.size - 1 < x.size := by omega
                simp -dsimp only [h54, g8, g7, g1, g5, g11, g10, g9, q, r1, r2, r3, r4, hw, encSS, exitR_exit, gate, decide_true, decide_false, Bool.not_true, Bool.not_false, bTT, bTF, bFT, bFF, ↓preB, postB, genB, ↓reduceIte, Nat.reduceEqDiff, Int.reduceToNat, Int.reduceLE, Int.reduceLT, Nat.reduceAdd, Nat.reduceLeDiff, intBin, strBin, unD, extractD, lit1, lit2, lit3, keptD, boxR, D.one, D.pub1, D.cells, splice, cutOwn]
                refine Fn.use (isPart_c _) ?_
                cases r5 : isPartI (byteAt x (x.size - 1))
                · have nx := nxt x.size (by rw [r5]; rfl)
                  simp -dsimp only [h54, g8, g7, g1, g5, g11, g10, g9, q, r1, r2, r3, r4, r5, hw, encSS, exitR_exit, gate, decide_true, decide_false, Bool.not_true, Bool.not_false, bTT, bTF, bFT, bFF, ↓preB, postB, genB, ↓reduceIte, Nat.reduceEqDiff, Int.reduceToNat, Int.reduceLE, Int.reduceLT, Nat.reduceAdd, Nat.reduceLeDiff, intBin, strBin, unD, extractD, lit1, lit2, lit3, keptD, boxR, D.one, D.pub1, D.cells, splice, cutOwn]
                  exact nx
                · have nx := nxt b (by rw [r5]; rfl)
                  simp -dsimp only [h54, g8, g7, g1, g5, g11, g10, g9, q, r1, r2, r3, r4, r5, hw, encSS, exitR_exit, gate, decide_true, decide_false, Bool.not_true, Bool.not_false, bTT, bTF, bFT, bFF, ↓preB, postB, genB, ↓reduceIte, Nat.reduceEqDiff, Int.reduceToNat, Int.reduceLE, Int.reduceLT, Nat.reduceAdd, Nat.reduceLeDiff, intBin, strBin, unD, extractD, lit1, lit2, lit3, keptD, boxR, D.one, D.pub1, D.cells, splice, cutOwn]
                  exact nx
    · have hn : ¬ (k : Int) < l.length := by omega
      rw [List.drop_of_length_le hge, List.take_of_length_le hge] at hp
      rw [List.take_of_length_le hge] at h5
      simp -dsimp only [h11, h5, h10, h9, h1, hn, exitR_exit, gate, decide_true, decide_false, Bool.not_true, Bool.not_false, bTT, bTF, bFT, bFF, ↓preB, postB, genB, ↓reduceIte, Nat.reduceEqDiff, Int.reduceToNat, Int.reduceLE, Int.reduceLT, Nat.reduceAdd, Nat.reduceLeDiff, intBin, strBin, unD, extractD, lit1, lit2, lit3, keptD, boxR, D.one, D.pub1, D.cells, splice, cutOwn]
      rw [hp]
      rfl
  · rintro env τ ⟨rfl, h5⟩
    simp -dsimp only [h5, gate, decide_true, decide_false, Bool.not_true, Bool.not_false, bTT, bTF, bFT, bFF, ↓preB, postB, genB, ↓reduceIte, Nat.reduceEqDiff, Int.reduceToNat, Int.reduceLE, Int.reduceLT, Nat.reduceAdd, Nat.reduceLeDiff, intBin, strBin, unD, extractD, lit1, lit2, lit3, keptD, boxR, D.one, D.pub1, D.cells, splice, cutOwn]
    exact Ret.is rfl
theorem kindOf_units (l : Wd) : Fn Zs 17 [.iface 43 (encSS l)] (.int .i64 3) := by
  refine fn_of (Z := Zs) ok17 fun σ hcl hbl => ?_
  simp -dsimp only [L17, encSS, ↓preB, postB, genB, ↓reduceIte, Nat.reduceEqDiff, Int.reduceToNat, Int.reduceLE, Int.reduceLT, Nat.reduceAdd, Nat.reduceLeDiff, intBin, strBin, unD, extractD, lit1, lit2, lit3, keptD, boxR, D.one, D.pub1, D.cells, splice, cutOwn]
  exact Ret.is rfl
theorem kindOf_numbers : Fn Zs 17 [.iface 45 (.agg [])] (.int .i64 1) := by
  refine fn_of (Z := Zs) ok17 fun σ hcl hbl => ?_
  simp -dsimp only [L17, ↓preB, postB, genB, ↓reduceIte, Nat.reduceEqDiff, Int.reduceToNat, Int.reduceLE, Int.reduceLT, Nat.reduceAdd, Nat.reduceLeDiff, intBin, strBin, unD, extractD, lit1, lit2, lit3, keptD, boxR, D.one, D.pub1, D.cells, splice, cutOwn]
  exact Ret.is rfl
theorem kindOf_wordlike : Fn Zs 17 [.iface 46 (.agg [])] (.int .i64 0) := by
  refine fn_of (Z := Zs) ok17 fun σ hcl hbl => ?_
  simp -dsimp only [L17, ↓preB, postB, genB, ↓reduceIte, Nat.reduceEqDiff, Int.reduceToNat, Int.reduceLE, Int.reduceLT, Nat.reduceAdd, Nat.reduceLeDiff, intBin, strBin, unD, extractD, lit1, lit2, lit3, keptD, boxR, D.one, D.pub1, D.cells, splice, cutOwn]
  exact Ret.is rfl
theorem kindOf_sign : Fn Zs 17 [.iface 47 (.agg [])] (.int .i64 2) := by
  refine fn_of (Z := Zs) ok17 fun σ hcl hbl => ?_
  simp -dsimp only [L17, ↓preB, postB, genB, ↓reduceIte, Nat.reduceEqDiff, Int.reduceToNat, Int.reduceLE, Int.reduceLT, Nat.reduceAdd, Nat.reduceLeDiff, intBin, strBin, unD, extractD, lit1, lit2, lit3, keptD, boxR, D.one, D.pub1, D.cells, splice, cutOwn]
  exact Ret.is rfl
end Go.Proofs.Ytapkbkniooleaaa.Vs
