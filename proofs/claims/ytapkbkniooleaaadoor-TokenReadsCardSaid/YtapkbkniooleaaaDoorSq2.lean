import Derived.Test.YtapkbkniooleaaaDoorSq1
import Derived.Test.YtapkbkniooleaaaDoorLawSpells
/- numbers of YtapkbkniooleaaaDoor -/
namespace Go.Proofs.YtapkbkniooleaaaDoor.Vs
set_option linter.unusedVariables false
set_option linter.unusedSimpArgs false
set_option maxRecDepth 100000
theorem uns_six (m : Nat) (h : m < 1000000) : uns (six m) = ((m : Int), true) := by
  unfold uns
  rw [num_six m h, if_neg]
  rintro (h1 | h1 | h1)
  · omega
  · omega
  · exact h1 (by rw [Int.toNat_natCast])
theorem uns_cases (l : List UInt8) : uns l = (0, false) ∨ ∃ m : Nat, m < 1000000 ∧ six m = l ∧ uns l = ((m : Int), true) := by
  unfold uns
  split
  · exact .inl rfl
  · rename_i h
    have h1 : ¬ num l < 0 := fun x => h (.inl x)
    have h2 : ¬ 999999 < num l := fun x => h (.inr (.inl x))
    have h3 : six (num l).toNat = l := Decidable.not_not.1 fun x => h (.inr (.inr x))
    exact .inr ⟨(num l).toNat, by omega, h3, by rw [show (((num l).toNat : Nat) : Int) = num l by omega]⟩
theorem sixW_toB (m : Nat) : sixW m = toB (six m) := ba_eq_l.2 (sixW_l m)
end Go.Proofs.YtapkbkniooleaaaDoor.Vs

/- numbers of YtapkbkniooleaaaDoor -/
namespace Go.Proofs.YtapkbkniooleaaaDoor.Vs
set_option linter.unusedVariables false
set_option linter.unusedSimpArgs false
set_option maxRecDepth 100000
/-- The longest number below k that begins the text, and how long it is. -/
def bestR (s : ByteArray) : Nat → Int × Int
  | 0 => (0, -1)
  | k + 1 => if preW s (threeW k) = true ∧ (bestR s k).2 < (threeW k).size then ((k : Int), ((threeW k).size : Int)) else bestR s k
theorem preW_d (s x : ByteArray) : preW s x = (decide (x.size ≤ s.size) && (s.extract 0 x.size == x)) := rfl
theorem bestR_is (s : ByteArray) : ∀ k, ((bestR s k).2 = -1 ∧ ∀ j, j < k → preW s (threeW j) = false) ∨ (∃ b, b < k ∧ preW s (threeW b) = true ∧ bestR s k = ((b : Int), ((threeW b).size : Int)) ∧ ∀ j, j < k → preW s (threeW j) = true → (threeW j).size ≤ (threeW b).size)
  | 0 => .inl ⟨rfl, fun j hj => absurd hj (Nat.not_lt_zero _)⟩
  | k + 1 => by
    have ih := bestR_is s k
    unfold bestR
    split
    · rename_i h
      refine .inr ⟨k, by omega, h.1, rfl, fun j hj hp => ?_⟩
      rcases Nat.lt_succ_iff_lt_or_eq.1 hj with h1 | rfl
      · rcases ih with ⟨_, h2⟩ | ⟨b, _, _, h3, h4⟩
        · rw [h2 j h1] at hp; exact absurd hp (by simp)
        · have h5 := h.2
          rw [h3] at h5
          have := h4 j h1 hp
          simp only [] at h5
          omega
      · exact Nat.le_refl _
    · rename_i h
      rcases ih with ⟨h1, h2⟩ | ⟨b, h1, h2, h3, h4⟩
      · refine .inl ⟨h1, fun j hj => ?_⟩
        rcases Nat.lt_succ_iff_lt_or_eq.1 hj with h5 | rfl
        · exact h2 j h5
        · rw [h1] at h
          exact Bool.eq_false_iff.2 fun h6 => h ⟨h6, by omega⟩
      · refine .inr ⟨b, by omega, h2, h3, fun j hj hp => ?_⟩
        rcases Nat.lt_succ_iff_lt_or_eq.1 hj with h5 | rfl
        · exact h4 j h5 hp
        · rw [h3] at h
          simp only [] at h
          exact Nat.le_of_not_lt fun h6 => h ⟨hp, by omega⟩
theorem ext_all (s : ByteArray) : s.extract 0 s.size = s := by simp
theorem bestR_hit {s : ByteArray} (h : (bestR s 1000).2 = (s.size : Int)) : ∃ b, b < 1000 ∧ threeW b = s ∧ (bestR s 1000).1 = (b : Nat) := by
  rcases bestR_is s 1000 with ⟨h1, _⟩ | ⟨b, h1, h2, h3, _⟩
  · rw [h1] at h; omega
  · rw [h3] at h ⊢
    have h4 : (threeW b).size = s.size := by simp only [] at h; omega
    rw [preW_d, Bool.and_eq_true, h4, ext_all, ba_decS, decide_eq_true_eq, decide_eq_true_eq] at h2
    exact ⟨b, h1, h2.2.symm, rfl⟩
theorem bestR_miss {s : ByteArray} (h : ¬ (bestR s 1000).2 = (s.size : Int)) : ∀ b, b < 1000 → threeW b ≠ s := by
  intro b hb e
  have hp : preW s (threeW b) = true := by rw [e, preW_d, ext_all, ba_refl]; simp
  rcases bestR_is s 1000 with ⟨_, h2⟩ | ⟨c, h1, h2, h3, h4⟩
  · rw [h2 b hb] at hp; exact absurd hp (by simp)
  · have h5 := h4 b hb hp
    rw [e] at h5
    rw [preW_d, Bool.and_eq_true, decide_eq_true_eq] at h2
    rw [h3] at h
    simp only [] at h
    omega
theorem belowR_c (s : ByteArray) : Fn Zs 33 [.str s, .int .i64 0, .int .i64 1000] (.tup [.int .i64 (bestR s 1000).1, .int .i64 (bestR s 1000).2]) := by
  refine fn_of (Z := Zs) ok33 fun σ hcl hbl => ?_
  simp -dsimp only [L33, ↓preB, postB, genB, ↓reduceIte, Nat.reduceEqDiff, Int.reduceToNat, Int.reduceLE, Int.reduceLT, Nat.reduceAdd, Nat.reduceLeDiff, intBin, strBin, unD, extractD, lit1, lit2, lit3, keptD, boxR, D.one, D.pub1, D.cells, splice, cutOwn]
  refine pwp_loopG (fun k env s' => k ≤ 1000 ∧ s' = σ ∧ env 10 = .int .i64 (k:Nat) ∧ env 0 = .str s ∧ env 2 = .int .i64 1000 ∧ env 8 = .int .i64 (bestR s k).1 ∧ env 9 = .int .i64 (bestR s k).2) (fun k => 1000 - k) 0 ?_ ?_
  · simp [upd_apply, envOf, bestR]
  · rintro k env s' ⟨hk, rfl, e10, e0, e2, e8, e9⟩
    by_cases hlt : k < 1000
    · have k1 : (k : Int) < 1000 := by omega
      have hS := spell_3 k hlt
      have hd : bestR s (k + 1) = if preW s (threeW k) = true ∧ (bestR s k).2 < (threeW k).size then ((k : Int), ((threeW k).size : Int)) else bestR s k := rfl
      rw [preW_d] at hd
      generalize threeW k = T at *
      generalize bestR s k = B at *
      simp -dsimp only [e10, e0, e2, e8, e9, k1, gate, decide_true, decide_false, Bool.not_true, Bool.not_false, bTT, bTF, bFT, bFF, ↓preB, postB, genB, ↓reduceIte, Nat.reduceEqDiff, Int.reduceToNat, Int.reduceLE, Int.reduceLT, Nat.reduceAdd, Nat.reduceLeDiff, intBin, strBin, unD, extractD, lit1, lit2, lit3, keptD, boxR, D.one, D.pub1, D.cells, splice, cutOwn]
      refine Fn.use hS ?_
      by_cases c1 : T.size ≤ s.size
      · have k2 : (T.size : Int) ≤ (s.size : Int) := by omega
        rw [decide_eq_true c1, Bool.true_and] at hd
        cases c2 : (s.extract 0 T.size == T)
        · rw [c2, if_neg fun h => absurd h.1 (by simp)] at hd
          simp -dsimp only [e10, e0, e2, e8, e9, k1, k2, c2, gate, decide_true, decide_false, Bool.not_true, Bool.not_false, bTT, bTF, bFT, bFF, ↓preB, postB, genB, ↓reduceIte, Nat.reduceEqDiff, Int.reduceToNat, Int.reduceLE, Int.reduceLT, Nat.reduceAdd, Nat.reduceLeDiff, intBin, strBin, unD, extractD, lit1, lit2, lit3, keptD, boxR, D.one, D.pub1, D.cells, splice, cutOwn]
          intros
          exact ⟨by omega, k + 1, ⟨by omega, wrap64_succ (by simp only [big]; omega), by rw [hd], by rw [hd]⟩, by omega⟩
        · rw [c2] at hd
          by_cases c3 : B.2 < T.size
          · rw [if_pos ⟨rfl, c3⟩] at hd
            simp -dsimp only [e10, e0, e2, e8, e9, k1, k2, c2, c3, gate, decide_true, decide_false, Bool.not_true, Bool.not_false, bTT, bTF, bFT, bFF, ↓preB, postB, genB, ↓reduceIte, Nat.reduceEqDiff, Int.reduceToNat, Int.reduceLE, Int.reduceLT, Nat.reduceAdd, Nat.reduceLeDiff, intBin, strBin, unD, extractD, lit1, lit2, lit3, keptD, boxR, D.one, D.pub1, D.cells, splice, cutOwn]
            intros
            refine ⟨by omega, ?_⟩
            intros
            exact ⟨k + 1, ⟨by omega, wrap64_succ (by simp only [big]; omega), by rw [hd], by rw [hd]⟩, by omega⟩
          · rw [if_neg fun h => c3 h.2] at hd
            simp -dsimp only [e10, e0, e2, e8, e9, k1, k2, c2, c3, gate, decide_true, decide_false, Bool.not_true, Bool.not_false, bTT, bTF, bFT, bFF, ↓preB, postB, genB, ↓reduceIte, Nat.reduceEqDiff, Int.reduceToNat, Int.reduceLE, Int.reduceLT, Nat.reduceAdd, Nat.reduceLeDiff, intBin, strBin, unD, extractD, lit1, lit2, lit3, keptD, boxR, D.one, D.pub1, D.cells, splice, cutOwn]
            intros
            refine ⟨by omega, ?_⟩
            intros
            exact ⟨k + 1, ⟨by omega, wrap64_succ (by simp only [big]; omega), by rw [hd], by rw [hd]⟩, by omega⟩
      · have k2 : ¬ (T.size : Int) ≤ (s.size : Int) := by omega
        rw [decide_eq_false c1, Bool.false_and, if_neg fun h => absurd h.1 (by simp)] at hd
        simp -dsimp only [e10, e0, e2, e8, e9, k1, k2, gate, decide_true, decide_false, Bool.not_true, Bool.not_false, bTT, bTF, bFT, bFF, ↓preB, postB, genB, ↓reduceIte, Nat.reduceEqDiff, Int.reduceToNat, Int.reduceLE, Int.reduceLT, Nat.reduceAdd, Nat.reduceLeDiff, intBin, strBin, unD, extractD, lit1, lit2, lit3, keptD, boxR, D.one, D.pub1, D.cells, splice, cutOwn]
        intros
        exact ⟨k + 1, ⟨by omega, wrap64_succ (by simp only [big]; omega), by rw [hd], by rw [hd]⟩, by omega⟩
    · have k1 : ¬ (k : Int) < 1000 := by omega
      have : k = 1000 := by omega
      subst this
      simp -dsimp only [e10, e0, e2, e8, e9, k1, gate, decide_true, decide_false, Bool.not_true, Bool.not_false, bTT, bTF, bFT, bFF, ↓preB, postB, genB, ↓reduceIte, Nat.reduceEqDiff, Int.reduceToNat, Int.reduceLE, Int.reduceLT, Nat.reduceAdd, Nat.reduceLeDiff, intBin, strBin, unD, extractD, lit1, lit2, lit3, keptD, boxR, D.one, D.pub1, D.cells, splice, cutOwn]
      exact Ret.is rfl
theorem sixW_three (m : Nat) (h : m < 1000) : sixW m = threeW m := by unfold sixW; rw [if_pos h]
def thouB : ByteArray := ⟨#[32, 116, 104, 111, 117, 115, 97, 110, 100]⟩
theorem pre_app (a b : ByteArray) : preW (a ++ b) a = true := by
  rw [preW_d, Bool.and_eq_true, decide_eq_true_eq, ba_decS, decide_eq_true_eq]
  refine ⟨by rw [ByteArray.size_append]; omega, ?_⟩
  rw [ByteArray.extract_append_eq_left rfl]
theorem sixW_pre (n k : Nat) (hn : 0 < n) (hk : k < 1000) : preW (sixW (1000 * n + k)) (threeW n ++ thouB) = true := by
  have e1 : (1000 * n + k) / 1000 = n := by omega
  have e2 : (1000 * n + k) % 1000 = k := by omega
  unfold sixW behW
  rw [if_neg (by omega), e1, e2]
  split
  · have e3 : (threeW n ++ thouB : ByteArray) = threeW n ++ thouB ++ ByteArray.empty := ByteArray.append_empty.symm
    have := pre_app (threeW n ++ thouB) ByteArray.empty
    rw [ByteArray.append_empty] at this
    exact this
  · split
    · rw [ba_assoc]; exact pre_app _ _
    · rw [ba_assoc]; exact pre_app _ _
theorem sixW_zero (n : Nat) (hn : 0 < n) : sixW (1000 * n) = threeW n ++ thouB := by
  have e1 : (1000 * n) / 1000 = n := by omega
  have e2 : (1000 * n) % 1000 = 0 := by omega
  unfold sixW behW
  rw [if_neg (by omega), e1, e2, if_pos rfl]; rfl
theorem uns_hit {l : List UInt8} {m : Nat} (h : m < 1000000) (e : sixW m = toB l) : uns l = ((m : Int), true) := by
  have : six m = l := by rw [← sixW_l, e, toB_list]
  rw [← this]; exact uns_six m h
theorem uns_miss {l : List UInt8} (h : ∀ m, m < 1000000 → sixW m ≠ toB l) : uns l = (0, false) := by
  rcases uns_cases l with h1 | ⟨m, h1, h2, _⟩
  · exact h1
  · exact absurd (by rw [sixW_toB, h2]) (h m h1)
set_option maxHeartbeats 1000000 in
theorem UnspellR_c (l : List UInt8) : Fn Zs 17 [.str (toB l)] (.tup [.int .i64 (uns l).1, .bool (uns l).2]) := by
  have hB := belowR_c (toB l)
  have hhit := bestR_hit (s := toB l)
  have hmiss := bestR_miss (s := toB l)
  have uh := fun m => uns_hit (l := l) (m := m)
  have um := uns_miss (l := l)
  generalize bestR (toB l) 1000 = B at *
  generalize uns l = u at *
  generalize toB l = s at *
  refine fn_of (Z := Zs) ok17 fun σ hcl hbl => ?_
  simp -dsimp only [L17, ↓preB, postB, genB, ↓reduceIte, Nat.reduceEqDiff, Int.reduceToNat, Int.reduceLE, Int.reduceLT, Nat.reduceAdd, Nat.reduceLeDiff, intBin, strBin, unD, extractD, lit1, lit2, lit3, keptD, boxR, D.one, D.pub1, D.cells, splice, cutOwn]
  refine Fn.use hB ?_
  by_cases c0 : B.2 = (s.size : Int)
  · obtain ⟨b, h1, h2, h3⟩ := hhit c0
    have k0 : (B.2 == (s.size : Int)) = true := by rw [beq_iff_eq]; exact c0
    have hu := uh b (by omega) (by rw [sixW_three b h1, h2])
    simp -dsimp only [k0, h3, gate, decide_true, decide_false, Bool.not_true, Bool.not_false, bTT, bTF, bFT, bFF, ↓preB, postB, genB, ↓reduceIte, Nat.reduceEqDiff, Int.reduceToNat, Int.reduceLE, Int.reduceLT, Nat.reduceAdd, Nat.reduceLeDiff, intBin, strBin, unD, extractD, lit1, lit2, lit3, keptD, boxR, D.one, D.pub1, D.cells, splice, cutOwn]
    intros
    exact Ret.is (by rw [hu])
  have k0 : (B.2 == (s.size : Int)) = false := by rw [beq_eq_false_iff_ne]; exact c0
  have hm0 := hmiss c0
  simp -dsimp only [k0, gate, decide_true, decide_false, Bool.not_true, Bool.not_false, bTT, bTF, bFT, bFF, ↓preB, postB, genB, ↓reduceIte, Nat.reduceEqDiff, Int.reduceToNat, Int.reduceLE, Int.reduceLT, Nat.reduceAdd, Nat.reduceLeDiff, intBin, strBin, unD, extractD, lit1, lit2, lit3, keptD, boxR, D.one, D.pub1, D.cells, splice, cutOwn]
  intros
  refine pwp_loopG (fun n env s' => n < 1000 ∧ (∀ m, m < 1000 * (n + 1) → sixW m ≠ s) ∧ s' = σ ∧ env 6 = .int .i64 ((n + 1 : Nat) : Int) ∧ env 0 = .str s) (fun n => 1000 - n) 0 ?_ ?_
  · simp [upd_apply, envOf]
    intro m hm
    rw [sixW_three m hm]; exact hm0 m hm
  · rintro n env s' ⟨hn, hp, rfl, e6, e0⟩
    by_cases hlt : n + 1 < 1000
    · have k1 : ((n + 1 : Nat) : Int) < 1000 := by omega
      have hS := spell_3 (n + 1) hlt
      have zt := threeW_size (n + 1)
      have hpre := sixW_pre (n + 1)
      have h00 := sixW_zero (n + 1) (by omega)
      have z9 : thouB.size = 9 := rfl
      have zT : (threeW (n + 1) ++ thouB).size ≤ 69 := by rw [ByteArray.size_append]; omega
      have hz0 : (threeW (n + 1)).size + thouB.size ≤ big := by simp only [big]; omega
      generalize threeW (n + 1) = T0 at *
      simp -dsimp only [e6, e0, k1, gate, decide_true, decide_false, Bool.not_true, Bool.not_false, bTT, bTF, bFT, bFF, ↓preB, postB, genB, ↓reduceIte, Nat.reduceEqDiff, Int.reduceToNat, Int.reduceLE, Int.reduceLT, Nat.reduceAdd, Nat.reduceLeDiff, intBin, strBin, unD, extractD, lit1, lit2, lit3, keptD, boxR, D.one, D.pub1, D.cells, splice, cutOwn]
      refine Fn.use hS ?_
      have hTh : (⟨#[32, 116, 104, 111, 117, 115, 97, 110, 100]⟩ : ByteArray) = thouB := rfl
      simp -dsimp only [e6, e0, k1, gate, decide_true, decide_false, Bool.not_true, Bool.not_false, bTT, bTF, bFT, bFF, ↓preB, postB, genB, ↓reduceIte, Nat.reduceEqDiff, Int.reduceToNat, Int.reduceLE, Int.reduceLT, Nat.reduceAdd, Nat.reduceLeDiff, intBin, strBin, unD, extractD, lit1, lit2, lit3, keptD, boxR, D.one, D.pub1, D.cells, splice, cutOwn]
      simp only [hTh]
      refine ⟨hz0, ?_⟩
      clear hz0 hTh
      generalize T0 ++ thouB = T at *
      have hpd := preW_d s T
      have step : ∀ n', n' = n + 1 → (∀ m, m < 1000 * (n' + 1) → sixW m ≠ s) → ∃ y, (y < 1000 ∧ (∀ m, m < 1000 * (y + 1) → sixW m ≠ s) ∧ IntKind.i64.wrap (((n + 1 : Nat) : Int) + 1) = ((y + 1 : Nat) : Int)) ∧ 1000 - y < 1000 - n := fun n' e h => by
        subst e
        exact ⟨n + 1, ⟨by omega, h, wrap64_succ (by simp only [big]; omega)⟩, by omega⟩
      have skip : preW s T = false → ∀ m, m < 1000 * (n + 1 + 1) → sixW m ≠ s := fun hf m hm e => by
        by_cases h1 : m < 1000 * (n + 1)
        · exact hp m h1 e
        · have := hpre (m - 1000 * (n + 1)) (by omega) (by omega)
          rw [show 1000 * (n + 1) + (m - 1000 * (n + 1)) = m by omega, e, hf] at this
          exact absurd this (by simp)
      by_cases c1 : s.size < T.size
      · have k2 : ((s.size : Int) < (T.size : Int)) := by omega
        rw [decide_eq_false (by omega), Bool.false_and] at hpd
        simp -dsimp only [e6, e0, k1, k2, c1, gate, decide_true, decide_false, Bool.not_true, Bool.not_false, bTT, bTF, bFT, bFF, ↓preB, postB, genB, ↓reduceIte, Nat.reduceEqDiff, Int.reduceToNat, Int.reduceLE, Int.reduceLT, Nat.reduceAdd, Nat.reduceLeDiff, intBin, strBin, unD, extractD, lit1, lit2, lit3, keptD, boxR, D.one, D.pub1, D.cells, splice, cutOwn]
        intros
        exact step _ rfl (skip hpd)
      have k2 : ¬ ((s.size : Int) < (T.size : Int)) := by omega
      rw [decide_eq_true (by omega), Bool.true_and] at hpd
      cases c2 : (s.extract 0 T.size == T)
      · rw [c2] at hpd
        have c2' : (s.extract 0 T.size != T) = true := by rw [bne, c2]; rfl
        simp -dsimp only [e6, e0, k1, k2, c1, c2', gate, decide_true, decide_false, Bool.not_true, Bool.not_false, bTT, bTF, bFT, bFF, ↓preB, postB, genB, ↓reduceIte, Nat.reduceEqDiff, Int.reduceToNat, Int.reduceLE, Int.reduceLT, Nat.reduceAdd, Nat.reduceLeDiff, intBin, strBin, unD, extractD, lit1, lit2, lit3, keptD, boxR, D.one, D.pub1, D.cells, splice, cutOwn]
        intros
        refine ⟨by omega, ?_⟩
        intros
        exact step _ rfl (skip hpd)
      have c2' : (s.extract 0 T.size != T) = false := by rw [bne, c2]; rfl
      have e4 : s.extract 0 T.size = T := by rw [ba_decS, decide_eq_true_eq] at c2; exact c2
      simp -dsimp only [e6, e0, k1, k2, c1, c2', gate, decide_true, decide_false, Bool.not_true, Bool.not_false, bTT, bTF, bFT, bFF, ↓preB, postB, genB, ↓reduceIte, Nat.reduceEqDiff, Int.reduceToNat, Int.reduceLE, Int.reduceLT, Nat.reduceAdd, Nat.reduceLeDiff, intBin, strBin, unD, extractD, lit1, lit2, lit3, keptD, boxR, D.one, D.pub1, D.cells, splice, cutOwn]
      intros
      refine ⟨by omega, ?_⟩
      intros
      refine ⟨⟨by omega, by omega⟩, ?_⟩
      have w1 : IntKind.i64.wrap (1000 * ((n + 1 : Nat) : Int)) = ((1000 * (n + 1) : Nat) : Int) := by
        rw [wrap64_in (by omega) (by omega)]; omega
      cases c3 : (s.extract T.size s.size == (⟨#[]⟩ : ByteArray))
      case true =>
        have h5 : s.extract T.size s.size = ⟨#[]⟩ := by rw [ba_decS, decide_eq_true_eq] at c3; exact c3
        have h6 : (s.extract T.size s.size).size = 0 := by rw [h5]; rfl
        rw [ByteArray.size_extract] at h6
        have h7 : T = s := by rw [← e4, show T.size = s.size by omega, ext_all]
        have hu := uh (1000 * (n + 1)) (by omega) (by rw [h00, h7])
        simp only [w1, if_true]
        exact Ret.is (by rw [hu])
      have hzero : sixW (1000 * (n + 1)) ≠ s := fun h => by
        rw [h00] at h
        rw [h, ba_decS, decide_eq_false_iff_not] at c3
        exact c3 (by apply ba_ext'; rw [ByteArray.data_extract]; simp)
      rw [if_neg (by decide)]
      refine pwp_loopG (fun k env τ => k < 1000 ∧ (∀ j, j ≤ k → sixW (1000 * (n + 1) + j) ≠ s) ∧ τ = s' ∧ env 9 = .int .i64 ((k + 1 : Nat) : Int) ∧ env 6 = .int .i64 ((n + 1 : Nat) : Int) ∧ env 0 = .str s) (fun k => 1000 - k) 0 ?_ ?_
      · simp only [upd_apply, envOf_apply, e6, e0, Nat.reduceEqDiff, if_true, if_false]
        refine ⟨by decide, fun j hj => ?_, (by first | trivial | rfl | omega), (by first | trivial | rfl | omega), (by first | trivial | rfl | omega), (by first | trivial | rfl | omega)⟩
        obtain rfl : j = 0 := by omega
        exact hzero
      · rintro k env' τ ⟨hk, hq, rfl, g9, g6, g0⟩
        by_cases hlt2 : k + 1 < 1000
        · have j1 : ((k + 1 : Nat) : Int) < 1000 := by omega
          have w2 : IntKind.i64.wrap (((1000 * (n + 1) : Nat) : Int) + ((k + 1 : Nat) : Int)) = ((1000 * (n + 1) + (k + 1) : Nat) : Int) := by
            rw [wrap64_in (by omega) (by omega)]; omega
          have hX := spell_6 (1000 * (n + 1) + (k + 1)) (by omega)
          have hu := uh (1000 * (n + 1) + (k + 1)) (by omega)
          have nq : sixW (1000 * (n + 1) + (k + 1)) ≠ s → ∀ j, j ≤ k + 1 → sixW (1000 * (n + 1) + j) ≠ s := fun h j hj => by
            by_cases h1 : j ≤ k
            · exact hq j h1
            · obtain rfl : j = k + 1 := by omega
              exact h
          generalize sixW (1000 * (n + 1) + (k + 1)) = X at *
          have hd : (X == s) = decide (X = s) := ba_decS X s
          by_cases c5 : X = s
          · rw [decide_eq_true c5] at hd
            have hu' := hu c5
            simp -dsimp only [g9, g6, g0, j1, w1, w2, gate, decide_true, decide_false, Bool.not_true, Bool.not_false, bTT, bTF, bFT, bFF, ↓preB, postB, genB, ↓reduceIte, Nat.reduceEqDiff, Int.reduceToNat, Int.reduceLE, Int.reduceLT, Nat.reduceAdd, Nat.reduceLeDiff, intBin, strBin, unD, extractD, lit1, lit2, lit3, keptD, boxR, D.one, D.pub1, D.cells, splice, cutOwn]
            refine Fn.use hX ?_
            simp -dsimp only [g9, g6, g0, j1, w1, w2, hd, gate, decide_true, decide_false, Bool.not_true, Bool.not_false, bTT, bTF, bFT, bFF, ↓preB, postB, genB, ↓reduceIte, Nat.reduceEqDiff, Int.reduceToNat, Int.reduceLE, Int.reduceLT, Nat.reduceAdd, Nat.reduceLeDiff, intBin, strBin, unD, extractD, lit1, lit2, lit3, keptD, boxR, D.one, D.pub1, D.cells, splice, cutOwn]
            exact Ret.is (by rw [hu'])
          · rw [decide_eq_false c5] at hd
            simp -dsimp only [g9, g6, g0, j1, w1, w2, gate, decide_true, decide_false, Bool.not_true, Bool.not_false, bTT, bTF, bFT, bFF, ↓preB, postB, genB, ↓reduceIte, Nat.reduceEqDiff, Int.reduceToNat, Int.reduceLE, Int.reduceLT, Nat.reduceAdd, Nat.reduceLeDiff, intBin, strBin, unD, extractD, lit1, lit2, lit3, keptD, boxR, D.one, D.pub1, D.cells, splice, cutOwn]
            refine Fn.use hX ?_
            simp -dsimp only [g9, g6, g0, j1, w1, w2, hd, gate, decide_true, decide_false, Bool.not_true, Bool.not_false, bTT, bTF, bFT, bFF, ↓preB, postB, genB, ↓reduceIte, Nat.reduceEqDiff, Int.reduceToNat, Int.reduceLE, Int.reduceLT, Nat.reduceAdd, Nat.reduceLeDiff, intBin, strBin, unD, extractD, lit1, lit2, lit3, keptD, boxR, D.one, D.pub1, D.cells, splice, cutOwn]
            exact ⟨k + 1, ⟨by omega, nq c5, wrap64_succ (by simp only [big]; omega)⟩, by omega⟩
        · have j1 : ¬ ((k + 1 : Nat) : Int) < 1000 := by omega
          simp -dsimp only [g9, g6, g0, j1, gate, decide_true, decide_false, Bool.not_true, Bool.not_false, bTT, bTF, bFT, bFF, ↓preB, postB, genB, ↓reduceIte, Nat.reduceEqDiff, Int.reduceToNat, Int.reduceLE, Int.reduceLT, Nat.reduceAdd, Nat.reduceLeDiff, intBin, strBin, unD, extractD, lit1, lit2, lit3, keptD, boxR, D.one, D.pub1, D.cells, splice, cutOwn]
          exact step _ rfl fun m hm e => by
            by_cases h1 : m < 1000 * (n + 1)
            · exact hp m h1 e
            · exact hq (m - 1000 * (n + 1)) (by omega) (by rw [show 1000 * (n + 1) + (m - 1000 * (n + 1)) = m by omega]; exact e)
    · have k1 : ¬ ((n + 1 : Nat) : Int) < 1000 := by omega
      have hu := um fun m hm => hp m (by omega)
      simp -dsimp only [e6, e0, k1, gate, decide_true, decide_false, Bool.not_true, Bool.not_false, bTT, bTF, bFT, bFF, ↓preB, postB, genB, ↓reduceIte, Nat.reduceEqDiff, Int.reduceToNat, Int.reduceLE, Int.reduceLT, Nat.reduceAdd, Nat.reduceLeDiff, intBin, strBin, unD, extractD, lit1, lit2, lit3, keptD, boxR, D.one, D.pub1, D.cells, splice, cutOwn]
      exact Ret.is (by rw [hu])
end Go.Proofs.YtapkbkniooleaaaDoor.Vs

/- numbers of YtapkbkniooleaaaDoor -/
namespace Go.Proofs.YtapkbkniooleaaaDoor.Vs
set_option linter.unusedVariables false
set_option linter.unusedSimpArgs false
set_option maxRecDepth 100000
theorem readsT_of (s : ByteArray) : Fn Zs 5 [.str s] (.bool true) := by
  obtain ⟨l, rfl⟩ : ∃ l, s = toB l := ⟨s.data.toList, ba_eq_l.2 rfl⟩
  have hz := toB_size l
  refine fn_of (Z := Zs) ok5 fun σ hcl hbl => ?_
  simp -dsimp only [L5, ↓preB, postB, genB, ↓reduceIte, Nat.reduceEqDiff, Int.reduceToNat, Int.reduceLE, Int.reduceLT, Nat.reduceAdd, Nat.reduceLeDiff, intBin, strBin, unD, extractD, lit1, lit2, lit3, keptD, boxR, D.one, D.pub1, D.cells, splice, cutOwn]
  by_cases c0 : 24000 < l.length
  · have k0 : (24000 : Int) < ((toB l).size : Int) := by omega
    simp -dsimp only [k0, gate, decide_true, decide_false, Bool.not_true, Bool.not_false, bTT, bTF, bFT, bFF, ↓preB, postB, genB, ↓reduceIte, Nat.reduceEqDiff, Int.reduceToNat, Int.reduceLE, Int.reduceLT, Nat.reduceAdd, Nat.reduceLeDiff, intBin, strBin, unD, extractD, lit1, lit2, lit3, keptD, boxR, D.one, D.pub1, D.cells, splice, cutOwn]
    intros
    refine Fn.use known_c ?_
    simp -dsimp only [gate, decide_true, decide_false, Bool.not_true, Bool.not_false, bTT, bTF, bFT, bFF, ↓preB, postB, genB, ↓reduceIte, Nat.reduceEqDiff, Int.reduceToNat, Int.reduceLE, Int.reduceLT, Nat.reduceAdd, Nat.reduceLeDiff, intBin, strBin, unD, extractD, lit1, lit2, lit3, keptD, boxR, D.one, D.pub1, D.cells, splice, cutOwn]
    exact Ret.is rfl
  have k0 : ¬ (24000 : Int) < ((toB l).size : Int) := by omega
  have hU := Unspell_c l (by omega)
  have hR := UnspellR_c l
  have ei : ∀ x : Int, (x == x) = true := fun x => by simp
  have eb : ∀ x : Bool, (x == x) = true := fun x => by simp
  generalize uns l = u at *
  simp -dsimp only [k0, gate, decide_true, decide_false, Bool.not_true, Bool.not_false, bTT, bTF, bFT, bFF, ↓preB, postB, genB, ↓reduceIte, Nat.reduceEqDiff, Int.reduceToNat, Int.reduceLE, Int.reduceLT, Nat.reduceAdd, Nat.reduceLeDiff, intBin, strBin, unD, extractD, lit1, lit2, lit3, keptD, boxR, D.one, D.pub1, D.cells, splice, cutOwn]
  intros
  refine Fn.use hU ?_
  simp -dsimp only [k0, ei, eb, List.getElem?_cons_zero, List.getElem?_cons_succ, gate, decide_true, decide_false, Bool.not_true, Bool.not_false, bTT, bTF, bFT, bFF, ↓preB, postB, genB, ↓reduceIte, Nat.reduceEqDiff, Int.reduceToNat, Int.reduceLE, Int.reduceLT, Nat.reduceAdd, Nat.reduceLeDiff, intBin, strBin, unD, extractD, lit1, lit2, lit3, keptD, boxR, D.one, D.pub1, D.cells, splice, cutOwn]
  refine Fn.use hR ?_
  simp -dsimp only [k0, ei, eb, List.getElem?_cons_zero, List.getElem?_cons_succ, gate, decide_true, decide_false, Bool.not_true, Bool.not_false, bTT, bTF, bFT, bFF, ↓preB, postB, genB, ↓reduceIte, Nat.reduceEqDiff, Int.reduceToNat, Int.reduceLE, Int.reduceLT, Nat.reduceAdd, Nat.reduceLeDiff, intBin, strBin, unD, extractD, lit1, lit2, lit3, keptD, boxR, D.one, D.pub1, D.cells, splice, cutOwn]
  refine Fn.use known_c ?_
  simp -dsimp only [k0, ei, eb, List.getElem?_cons_zero, List.getElem?_cons_succ, gate, decide_true, decide_false, Bool.not_true, Bool.not_false, bTT, bTF, bFT, bFF, ↓preB, postB, genB, ↓reduceIte, Nat.reduceEqDiff, Int.reduceToNat, Int.reduceLE, Int.reduceLT, Nat.reduceAdd, Nat.reduceLeDiff, intBin, strBin, unD, extractD, lit1, lit2, lit3, keptD, boxR, D.one, D.pub1, D.cells, splice, cutOwn]
  exact Ret.is rfl
end Go.Proofs.YtapkbkniooleaaaDoor.Vs
