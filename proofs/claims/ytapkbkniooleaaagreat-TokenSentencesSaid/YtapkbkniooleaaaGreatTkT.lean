/- numbers of Ytapkbkniooleaaa -/
import Derived.Test.YtapkbkniooleaaaGreatTkS
namespace Go.Proofs.YtapkbkniooleaaaGreat.Vs
set_option linter.unusedVariables false
set_option linter.unusedSimpArgs false
set_option maxRecDepth 100000
theorem imax_nat (a b : Nat) : imax (a : Int) (b : Int) = ((max a b : Nat) : Int) := by
  unfold imax
  rw [Nat.max_def]
  split <;> split <;> omega
theorem imax_one (a : Nat) : imax (a : Int) 1 = ((max a 1 : Nat) : Int) := imax_nat a 1
theorem max_if2 (a b : Nat) : (if a < b then (b : Int) else (a : Int)) = ((max a b : Nat) : Int) := by
  rw [Nat.max_def]
  split <;> split <;> omega
/-- What is longest, and of which kind. -/
def kindN (u n w : Nat) : Int := if max (max (max u n) w) 1 = u then 3 else if max (max (max u n) w) 1 = n then 1 else if max (max (max u n) w) 1 = w then 0 else 2
theorem best_nat (u1 u2 n w : Nat) : [(u1, (3 : Int)), (u2, 3), (n, 1), (w, 0), (1, 2)].foldl bestS (0, 2) = (max (max (max (max u1 u2) n) w) 1, kindN (max u1 u2) n w) := by
  have h1 : bestS (bestS (0, 2) (u1, (3 : Int))) (u2, 3) = if max u1 u2 = 0 then (0, 2) else (max u1 u2, 3) := by
    unfold bestS
    simp only []
    by_cases c1 : 0 < u1
    · rw [if_pos c1]
      simp only []
      have hne : ¬ max u1 u2 = 0 := by omega
      by_cases c2 : u1 < u2
      · rw [if_pos c2, if_neg hne, Nat.max_eq_right (by omega)]
      · rw [if_neg c2, if_neg hne, Nat.max_eq_left (by omega)]
    · rw [if_neg c1]
      simp only []
      have : u1 = 0 := by omega
      subst this
      rw [Nat.zero_max]
      by_cases c2 : 0 < u2
      · rw [if_pos c2, if_neg (by omega)]
      · rw [if_neg c2, if_pos (by omega)]
  simp only [List.foldl_cons, List.foldl_nil]
  rw [h1]
  generalize max u1 u2 = u
  unfold kindN bestS
  by_cases hu : u = 0
  · subst hu
    rw [if_pos rfl]
    simp only [Nat.zero_max]
    by_cases c1 : 0 < n
    · rw [if_pos c1]
      simp only []
      by_cases c2 : n < w
      · rw [if_pos c2]
        simp only []
        rw [if_neg (by omega), Nat.max_eq_right (show n ≤ w by omega), Nat.max_eq_left (show 1 ≤ w by omega), if_neg (by omega), if_neg (by omega), if_pos rfl]
      · rw [if_neg c2]
        simp only []
        rw [if_neg (by omega), Nat.max_eq_left (show w ≤ n by omega), Nat.max_eq_left (show 1 ≤ n by omega), if_neg (by omega), if_pos rfl]
    · rw [if_neg c1]
      simp only []
      have : n = 0 := by omega
      subst this
      simp only [Nat.zero_max]
      by_cases c2 : 0 < w
      · rw [if_pos c2]
        simp only []
        rw [if_neg (by omega), Nat.max_eq_left (show 1 ≤ w by omega), if_neg (by omega), if_neg (by omega), if_pos rfl]
      · rw [if_neg c2]
        simp only []
        have : w = 0 := by omega
        subst this
        decide
  · rw [if_neg hu]
    simp only []
    by_cases c1 : u < n
    · rw [if_pos c1]
      simp only []
      by_cases c2 : n < w
      · rw [if_pos c2]
        simp only []
        rw [if_neg (by omega), Nat.max_eq_right (show u ≤ n by omega), Nat.max_eq_right (show n ≤ w by omega), Nat.max_eq_left (show 1 ≤ w by omega), if_neg (by omega), if_neg (by omega), if_pos rfl]
      · rw [if_neg c2]
        simp only []
        rw [if_neg (by omega), Nat.max_eq_right (show u ≤ n by omega), Nat.max_eq_left (show w ≤ n by omega), Nat.max_eq_left (show 1 ≤ n by omega), if_neg (by omega), if_pos rfl]
    · rw [if_neg c1]
      simp only []
      by_cases c2 : u < w
      · rw [if_pos c2]
        simp only []
        rw [if_neg (by omega), Nat.max_eq_left (show n ≤ u by omega), Nat.max_eq_right (show u ≤ w by omega), Nat.max_eq_left (show 1 ≤ w by omega), if_neg (by omega), if_neg (by omega), if_pos rfl]
      · rw [if_neg c2]
        simp only []
        rw [if_neg (by omega), Nat.max_eq_left (show n ≤ u by omega), Nat.max_eq_left (show w ≤ u by omega), Nat.max_eq_left (show 1 ≤ u by omega), if_pos rfl]
theorem bestW_is (c : Cut) (t : ByteArray) : bestW c t = (max (max (max (max (unitW c.words t) (unitW c.short t)) (numW t)) (wordW t)) 1, kindN (max (unitW c.words t) (unitW c.short t)) (numW t) (wordW t)) := best_nat _ _ _ _
theorem cutLen (c : Cut) (s : ByteArray) : ∀ k a, a ≤ s.size → (cutW c s k a).length ≤ 2 * (s.size - a)
  | 0, a, _ => Nat.zero_le _
  | k + 1, a, ha => by
    rw [cutW_step]
    split
    · rename_i h
      split
      · have := cutLen c s k (a + 1) (by omega)
        omega
      · have hp := bestW_pos c (sfx s a)
        have hl := bestW_le c (t := sfx s a) (by rw [sfx_size]; omega)
        rw [sfx_size] at hl
        have := cutLen c s k (a + (bestW c (sfx s a)).1) (by omega)
        have hs : (someW c s a (bestW c (sfx s a)).1 (bestW c (sfx s a)).2).length ≤ (bestW c (sfx s a)).1 + 1 := by
          unfold someW
          split
          · have := cliticsW_len c.front c.back a (s.extract a (a + (bestW c (sfx s a)).1))
            rw [ByteArray.size_extract] at this
            omega
          · simp
        rw [List.length_append]
        omega
    · simp
theorem CutR_c (c : Cut) (s : ByteArray) (hs : s.size ≤ 6000) : Fn Zs 33 [encC c, .str s] (.sl .no (cutW c s s.size 0).length (encTks (cutW c s s.size 0))) := by
  refine fn_of (Z := Zs) ok33 fun σ hcl hbl => ?_
  simp -dsimp only [L33, encC, ↓preB, postB, genB, ↓reduceIte, Nat.reduceEqDiff, Int.reduceToNat, Int.reduceLE, Int.reduceLT, Nat.reduceAdd, Nat.reduceLeDiff, intBin, strBin, unD, extractD, lit1, lit2, lit3, keptD, boxR, D.one, D.pub1, D.cells, splice, cutOwn]
  obtain ⟨H, hH⟩ : ∃ H, H = σ.new (.cells 24 (cellsC c)) := ⟨_, rfl⟩
  have hcl1 : Closed H := by rw [hH]; exact hcl.new (bel_C c)
  have hle1 : HLe σ H := by rw [hH]; exact HLe.self_new _ hcl
  have hg1 : H.get σ.next = some (.cells 24 (cellsC c)) := by rw [hH]; exact Heap.new_same _ _
  rw [← hH]
  clear hH
  have hlen : (cellsC c).length = 4 := rfl
  have htk : (cellsC c).take 4 = cellsC c := rfl
  have x0 : (cellsC c)[0]? = some (encSS c.words) := rfl
  have x1 : (cellsC c)[1]? = some (encSS c.short) := rfl
  obtain ⟨L, hL⟩ : ∃ L, L = cutW c s s.size 0 := ⟨_, rfl⟩
  have hLl : L.length ≤ 12000 := by rw [hL]; have := cutLen c s s.size 0 (Nat.zero_le _); omega
  rw [← hL]
  refine pwp_loopJ 0 (fun e τ => Acc 43 4 H L.length (encTks L) (e 5) τ) (fun (x : Nat × Nat × List Tok) env τ => L = x.2.2 ++ cutW c s x.1 x.2.1 ∧ x.2.1 ≤ s.size ∧ s.size ≤ x.1 + x.2.1 ∧ Acc 43 4 H x.2.2.length (encTks x.2.2) (env 5) τ ∧ env 6 = .int .i64 (x.2.1 : Nat) ∧ env 1 = .str s ∧ env 2 = .ptr σ.next 0) (fun x => x.1) (s.size, 0, []) ?_ ?_ ?_
  · simp only [upd_apply, envOf_apply, Nat.reduceEqDiff, if_true, if_false]
    exact ⟨hL, Nat.zero_le _, Nat.le_refl _, .nil (HLe.refl _), (by first | trivial | rfl | omega), (by first | trivial | rfl | omega), (by first | trivial | rfl | omega)⟩
  · rintro ⟨k, a, A⟩ env τ ⟨hp, h1, h2, hacc, h6, hs1, e2⟩
    simp only [] at hp h1 h2 hacc h6
    have hg := hacc.le.get _ _ hg1
    by_cases a0 : (a : Int) < s.size
    · have a1 : a < s.size := by omega
      obtain ⟨k, rfl⟩ : ∃ j, k = j + 1 := ⟨k - 1, by omega⟩
      rw [cutW_step, if_pos a1] at hp
      simp -dsimp only [h6, hs1, e2, a0, a1, exitR_ret, gate, decide_true, decide_false, Bool.not_true, Bool.not_false, bTT, bTF, bFT, bFF, ↓preB, postB, genB, ↓reduceIte, Nat.reduceEqDiff, Int.reduceToNat, Int.reduceLE, Int.reduceLT, Nat.reduceAdd, Nat.reduceLeDiff, intBin, strBin, unD, extractD, lit1, lit2, lit3, keptD, boxR, D.one, D.pub1, D.cells, splice, cutOwn]
      intro _
      refine Fn.use (isBlankR_c _) ?_
      cases q1 : isBlankI (byteAt s a)
      · rw [q1, if_neg (by decide)] at hp
        have hpos := bestW_pos c (sfx s a)
        have hble := bestW_le c (t := sfx s a) (by rw [sfx_size]; omega)
        rw [sfx_size] at hble
        have hU1 := unitR_c c.words s a h1 (by omega)
        have hU2 := unitR_c c.short s a h1 (by omega)
        have hN := numberR_c s a h1 (by omega)
        have hW := wordR_c s a a1 (by omega)
        rw [bestW_is] at hp hpos hble
        simp only [] at hp hpos hble
        have hkd : ∀ u n w : Nat, kindN u n w = if max (max (max u n) w) 1 = u then 3 else if max (max (max u n) w) 1 = n then 1 else if max (max (max u n) w) 1 = w then 0 else 2 := fun _ _ _ => rfl
        generalize unitW c.words (sfx s a) = u1 at *
        generalize unitW c.short (sfx s a) = u2 at *
        generalize numW (sfx s a) = n at *
        generalize wordW (sfx s a) = w at *
        simp -dsimp only [h6, hs1, e2, a0, a1, q1, exitR_ret, gate, decide_true, decide_false, Bool.not_true, Bool.not_false, bTT, bTF, bFT, bFF, ↓preB, postB, genB, ↓reduceIte, Nat.reduceEqDiff, Int.reduceToNat, Int.reduceLE, Int.reduceLT, Nat.reduceAdd, Nat.reduceLeDiff, intBin, strBin, unD, extractD, lit1, lit2, lit3, keptD, boxR, D.one, D.pub1, D.cells, splice, cutOwn]
        refine draw_s ?_
        simp -dsimp only [h6, hs1, e2, hg, hlen, x0, x1, gate, decide_true, decide_false, Bool.not_true, Bool.not_false, bTT, bTF, bFT, bFF, ↓preB, postB, genB, ↓reduceIte, Nat.reduceEqDiff, Int.reduceToNat, Int.reduceLE, Int.reduceLT, Nat.reduceAdd, Nat.reduceLeDiff, intBin, strBin, unD, extractD, lit1, lit2, lit3, keptD, boxR, D.one, D.pub1, D.cells, splice, cutOwn]
        refine Fn.useS hU1 ?_
        simp -dsimp only [h6, hs1, e2, hg, hlen, x0, x1, gate, decide_true, decide_false, Bool.not_true, Bool.not_false, bTT, bTF, bFT, bFF, ↓preB, postB, genB, ↓reduceIte, Nat.reduceEqDiff, Int.reduceToNat, Int.reduceLE, Int.reduceLT, Nat.reduceAdd, Nat.reduceLeDiff, intBin, strBin, unD, extractD, lit1, lit2, lit3, keptD, boxR, D.one, D.pub1, D.cells, splice, cutOwn]
        refine Fn.useS hU2 ?_
        simp -dsimp only [h6, hs1, e2, hg, hlen, x0, x1, max_if2, gate, decide_true, decide_false, Bool.not_true, Bool.not_false, bTT, bTF, bFT, bFF, ↓preB, postB, genB, ↓reduceIte, Nat.reduceEqDiff, Int.reduceToNat, Int.reduceLE, Int.reduceLT, Nat.reduceAdd, Nat.reduceLeDiff, intBin, strBin, unD, extractD, lit1, lit2, lit3, keptD, boxR, D.one, D.pub1, D.cells, splice, cutOwn]
        refine Fn.useS hN ?_
        simp -dsimp only [h6, hs1, e2, hg, hlen, x0, x1, max_if2, gate, decide_true, decide_false, Bool.not_true, Bool.not_false, bTT, bTF, bFT, bFF, ↓preB, postB, genB, ↓reduceIte, Nat.reduceEqDiff, Int.reduceToNat, Int.reduceLE, Int.reduceLT, Nat.reduceAdd, Nat.reduceLeDiff, intBin, strBin, unD, extractD, lit1, lit2, lit3, keptD, boxR, D.one, D.pub1, D.cells, splice, cutOwn]
        refine Fn.useS hW ?_
        simp -dsimp only [h6, hs1, e2, hg, hlen, x0, x1, max_if2, imax_nat, imax_one, gate, decide_true, decide_false, Bool.not_true, Bool.not_false, bTT, bTF, bFT, bFF, ↓preB, postB, genB, ↓reduceIte, Nat.reduceEqDiff, Int.reduceToNat, Int.reduceLE, Int.reduceLT, Nat.reduceAdd, Nat.reduceLeDiff, intBin, strBin, unD, extractD, lit1, lit2, lit3, keptD, boxR, D.one, D.pub1, D.cells, splice, cutOwn]
        generalize max u1 u2 = u at *
        obtain ⟨m, hm⟩ : ∃ m, max (max (max u n) w) 1 = m := ⟨_, rfl⟩
        rw [hm] at hp hpos hble
        have w1 : IntKind.i64.wrap ((a : Int) + (m : Int)) = ((a + m : Nat) : Int) := by rw [wrap64_in (by omega) (by omega)]; omega
        rw [hm]
        by_cases k1 : m = u
        · subst k1
          have b1 : ((m : Int) == (m : Int)) = true := by simp
          have hp' : L = A ++ ([(⟨a, (a + m : Nat), 3, s.extract a (a + m)⟩ : Tok)] ++ cutW c s k (a + m)) := by rw [hp, hkd, hm, if_pos rfl, someW, if_neg (by decide)]
          clear hp
          have hp := hp'
          clear hp'
          have hAl : A.length + 1 ≤ 12000 := by
            have := congrArg List.length hp
            rw [List.length_append, List.length_append, List.length_cons, List.length_nil] at this
            omega
          have hK := tokenR_c s a (a + m) 3 (by omega) (by omega)
          simp only [encTk] at hK
          simp -dsimp only [hm, b1, h6, hs1, e2, w1, max_if2, imax_nat, imax_one, gate, decide_true, decide_false, Bool.not_true, Bool.not_false, bTT, bTF, bFT, bFF, ↓preB, postB, genB, ↓reduceIte, Nat.reduceEqDiff, Int.reduceToNat, Int.reduceLE, Int.reduceLT, Nat.reduceAdd, Nat.reduceLeDiff, intBin, strBin, unD, extractD, lit1, lit2, lit3, keptD, boxR, D.one, D.pub1, D.cells, splice, cutOwn]
          refine Fn.use hK ?_
          simp -dsimp only [hm, b1, h6, hs1, e2, w1, max_if2, imax_nat, imax_one, bs27, gate, decide_true, decide_false, Bool.not_true, Bool.not_false, bTT, bTF, bFT, bFF, ↓preB, postB, genB, ↓reduceIte, Nat.reduceEqDiff, Int.reduceToNat, Int.reduceLE, Int.reduceLT, Nat.reduceAdd, Nat.reduceLeDiff, intBin, strBin, unD, extractD, lit1, lit2, lit3, keptD, boxR, D.one, D.pub1, D.cells, splice, cutOwn]
          refine hacc.append hcl1 tz39 rfl tz43 rfl rfl rfl (by decide) (by rw [encTks_len]; simp only []; omega) (fedBy_sl (m := 1) tz39 rfl rfl) (by simp only []; omega) (by simp only [big]; omega) fun d6 τ6 hA6 => ?_
          rw [show [D.int .i64 (a : Int), .int .i64 (a + m : Nat), .int .i64 3, .str (s.extract a (a + m))] = encTks [(⟨a, (a + m : Nat), 3, s.extract a (a + m)⟩ : Tok)] from rfl] at *
          obtain ⟨o, rfl⟩ := hA6.is
          rw [← List.append_assoc] at hp
          have hlA : (A ++ [(⟨a, (a + m : Nat), 3, s.extract a (a + m)⟩ : Tok)]).length = A.length + 1 := by rw [List.length_append]; rfl
          rw [← encTks_append, ← hlA] at hA6
          rw [← encTks_append, ← hlA]
          simp -dsimp only [h6, hs1, e2, hm, w1, max_if2, imax_nat, imax_one, gate, decide_true, decide_false, Bool.not_true, Bool.not_false, bTT, bTF, bFT, bFF, ↓preB, postB, genB, ↓reduceIte, Nat.reduceEqDiff, Int.reduceToNat, Int.reduceLE, Int.reduceLT, Nat.reduceAdd, Nat.reduceLeDiff, intBin, strBin, unD, extractD, lit1, lit2, lit3, keptD, boxR, D.one, D.pub1, D.cells, splice, cutOwn]
          exact ⟨(k, a + m, A ++ [(⟨a, (a + m : Nat), 3, s.extract a (a + m)⟩ : Tok)]), ⟨hp, by simp only []; omega, by simp only []; omega, hA6, rfl⟩, Nat.lt_succ_self _⟩
        have b1 : ((m : Int) == (u : Int)) = false := by simp only [beq_eq_false_iff_ne, ne_eq]; omega
        by_cases k2 : m = n
        · subst k2
          have b2 : ((m : Int) == (m : Int)) = true := by simp
          have hp' : L = A ++ ([(⟨a, (a + m : Nat), 1, s.extract a (a + m)⟩ : Tok)] ++ cutW c s k (a + m)) := by rw [hp, hkd, hm, if_neg k1, if_pos rfl, someW, if_neg (by decide)]
          clear hp
          have hp := hp'
          clear hp'
          have hAl : A.length + 1 ≤ 12000 := by
            have := congrArg List.length hp
            rw [List.length_append, List.length_append, List.length_cons, List.length_nil] at this
            omega
          have hK := tokenR_c s a (a + m) 1 (by omega) (by omega)
          simp only [encTk] at hK
          simp -dsimp only [hm, b1, b2, h6, hs1, e2, w1, max_if2, imax_nat, imax_one, gate, decide_true, decide_false, Bool.not_true, Bool.not_false, bTT, bTF, bFT, bFF, ↓preB, postB, genB, ↓reduceIte, Nat.reduceEqDiff, Int.reduceToNat, Int.reduceLE, Int.reduceLT, Nat.reduceAdd, Nat.reduceLeDiff, intBin, strBin, unD, extractD, lit1, lit2, lit3, keptD, boxR, D.one, D.pub1, D.cells, splice, cutOwn]
          refine Fn.use hK ?_
          simp -dsimp only [hm, b1, b2, h6, hs1, e2, w1, max_if2, imax_nat, imax_one, bs27, gate, decide_true, decide_false, Bool.not_true, Bool.not_false, bTT, bTF, bFT, bFF, ↓preB, postB, genB, ↓reduceIte, Nat.reduceEqDiff, Int.reduceToNat, Int.reduceLE, Int.reduceLT, Nat.reduceAdd, Nat.reduceLeDiff, intBin, strBin, unD, extractD, lit1, lit2, lit3, keptD, boxR, D.one, D.pub1, D.cells, splice, cutOwn]
          refine hacc.append hcl1 tz39 rfl tz43 rfl rfl rfl (by decide) (by rw [encTks_len]; simp only []; omega) (fedBy_sl (m := 1) tz39 rfl rfl) (by simp only []; omega) (by simp only [big]; omega) fun d6 τ6 hA6 => ?_
          rw [show [D.int .i64 (a : Int), .int .i64 (a + m : Nat), .int .i64 1, .str (s.extract a (a + m))] = encTks [(⟨a, (a + m : Nat), 1, s.extract a (a + m)⟩ : Tok)] from rfl] at *
          obtain ⟨o, rfl⟩ := hA6.is
          rw [← List.append_assoc] at hp
          have hlA : (A ++ [(⟨a, (a + m : Nat), 1, s.extract a (a + m)⟩ : Tok)]).length = A.length + 1 := by rw [List.length_append]; rfl
          rw [← encTks_append, ← hlA] at hA6
          rw [← encTks_append, ← hlA]
          simp -dsimp only [h6, hs1, e2, hm, w1, max_if2, imax_nat, imax_one, gate, decide_true, decide_false, Bool.not_true, Bool.not_false, bTT, bTF, bFT, bFF, ↓preB, postB, genB, ↓reduceIte, Nat.reduceEqDiff, Int.reduceToNat, Int.reduceLE, Int.reduceLT, Nat.reduceAdd, Nat.reduceLeDiff, intBin, strBin, unD, extractD, lit1, lit2, lit3, keptD, boxR, D.one, D.pub1, D.cells, splice, cutOwn]
          exact ⟨(k, a + m, A ++ [(⟨a, (a + m : Nat), 1, s.extract a (a + m)⟩ : Tok)]), ⟨hp, by simp only []; omega, by simp only []; omega, hA6, rfl⟩, Nat.lt_succ_self _⟩
        have b2 : ((m : Int) == (n : Int)) = false := by simp only [beq_eq_false_iff_ne, ne_eq]; omega
        by_cases k3 : m = w
        · subst k3
          have b3 : ((m : Int) == (m : Int)) = true := by simp
          have hp' : L = A ++ (cliticsW c.front c.back a (s.extract a (a + m)) ++ cutW c s k (a + m)) := by rw [hp, hkd, hm, if_neg k1, if_neg k2, if_pos rfl, someW, if_pos rfl]
          clear hp
          have hp := hp'
          clear hp'
          have hAl : A.length + (cliticsW c.front c.back a (s.extract a (a + m))).length ≤ 12000 := by
            have := congrArg List.length hp
            rw [List.length_append, List.length_append] at this
            omega
          have hK := cutR_c c s a (a + m) (by omega) (by omega) (by omega)
          unfold encC at hK
          simp -dsimp only [hm, b1, b2, b3, h6, hs1, e2, w1, hg, hlen, htk, List.drop_zero, max_if2, imax_nat, imax_one, gate, decide_true, decide_false, Bool.not_true, Bool.not_false, bTT, bTF, bFT, bFF, ↓preB, postB, genB, ↓reduceIte, Nat.reduceEqDiff, Int.reduceToNat, Int.reduceLE, Int.reduceLT, Nat.reduceAdd, Nat.reduceLeDiff, intBin, strBin, unD, extractD, lit1, lit2, lit3, keptD, boxR, D.one, D.pub1, D.cells, splice, cutOwn]
          refine Fn.use hK ?_
          simp -dsimp only [hm, b1, b2, b3, h6, hs1, e2, w1, hg, hlen, htk, List.drop_zero, max_if2, imax_nat, imax_one, gate, decide_true, decide_false, Bool.not_true, Bool.not_false, bTT, bTF, bFT, bFF, ↓preB, postB, genB, ↓reduceIte, Nat.reduceEqDiff, Int.reduceToNat, Int.reduceLE, Int.reduceLT, Nat.reduceAdd, Nat.reduceLeDiff, intBin, strBin, unD, extractD, lit1, lit2, lit3, keptD, boxR, D.one, D.pub1, D.cells, splice, cutOwn]
          refine hacc.append hcl1 tz39 rfl tz43 rfl rfl rfl (by decide) (by rw [encTks_len]; simp only []; omega) (fedBy_sl (m := (cliticsW c.front c.back a (s.extract a (a + m))).length) tz39 rfl (by rw [encTks_len]; simp only []; omega)) (by simp only []; omega) (by simp only [big]; omega) fun d6 τ6 hA6 => ?_
          obtain ⟨o, rfl⟩ := hA6.is
          rw [← List.append_assoc] at hp
          have hlA : (A ++ cliticsW c.front c.back a (s.extract a (a + m))).length = A.length + (cliticsW c.front c.back a (s.extract a (a + m))).length := by rw [List.length_append]
          rw [← encTks_append, ← hlA] at hA6
          rw [← encTks_append, ← hlA]
          simp -dsimp only [h6, hs1, e2, hm, w1, max_if2, imax_nat, imax_one, gate, decide_true, decide_false, Bool.not_true, Bool.not_false, bTT, bTF, bFT, bFF, ↓preB, postB, genB, ↓reduceIte, Nat.reduceEqDiff, Int.reduceToNat, Int.reduceLE, Int.reduceLT, Nat.reduceAdd, Nat.reduceLeDiff, intBin, strBin, unD, extractD, lit1, lit2, lit3, keptD, boxR, D.one, D.pub1, D.cells, splice, cutOwn]
          exact ⟨(k, a + m, A ++ cliticsW c.front c.back a (s.extract a (a + m))), ⟨hp, by simp only []; omega, by simp only []; omega, hA6, rfl⟩, Nat.lt_succ_self _⟩
        have b3 : ((m : Int) == (w : Int)) = false := by simp only [beq_eq_false_iff_ne, ne_eq]; omega
        have hm1 : m = 1 := by omega
        have w2 : IntKind.i64.wrap ((a : Int) + 1) = ((a + m : Nat) : Int) := by rw [← w1, hm1]; rfl
        · have hp' : L = A ++ ([(⟨a, (a + m : Nat), 2, s.extract a (a + m)⟩ : Tok)] ++ cutW c s k (a + m)) := by rw [hp, hkd, hm, if_neg k1, if_neg k2, if_neg k3, someW, if_neg (by decide)]
          clear hp
          have hp := hp'
          clear hp'
          have hAl : A.length + 1 ≤ 12000 := by
            have := congrArg List.length hp
            rw [List.length_append, List.length_append, List.length_cons, List.length_nil] at this
            omega
          have hK := tokenR_c s a (a + m) 2 (by omega) (by omega)
          simp only [encTk] at hK
          simp -dsimp only [hm, b1, b2, b3, h6, hs1, e2, w1, w2, max_if2, imax_nat, imax_one, gate, decide_true, decide_false, Bool.not_true, Bool.not_false, bTT, bTF, bFT, bFF, ↓preB, postB, genB, ↓reduceIte, Nat.reduceEqDiff, Int.reduceToNat, Int.reduceLE, Int.reduceLT, Nat.reduceAdd, Nat.reduceLeDiff, intBin, strBin, unD, extractD, lit1, lit2, lit3, keptD, boxR, D.one, D.pub1, D.cells, splice, cutOwn]
          refine Fn.use hK ?_
          simp -dsimp only [hm, b1, b2, b3, h6, hs1, e2, w1, w2, max_if2, imax_nat, imax_one, bs27, gate, decide_true, decide_false, Bool.not_true, Bool.not_false, bTT, bTF, bFT, bFF, ↓preB, postB, genB, ↓reduceIte, Nat.reduceEqDiff, Int.reduceToNat, Int.reduceLE, Int.reduceLT, Nat.reduceAdd, Nat.reduceLeDiff, intBin, strBin, unD, extractD, lit1, lit2, lit3, keptD, boxR, D.one, D.pub1, D.cells, splice, cutOwn]
          refine hacc.append hcl1 tz39 rfl tz43 rfl rfl rfl (by decide) (by rw [encTks_len]; simp only []; omega) (fedBy_sl (m := 1) tz39 rfl rfl) (by simp only []; omega) (by simp only [big]; omega) fun d6 τ6 hA6 => ?_
          rw [show [D.int .i64 (a : Int), .int .i64 (a + m : Nat), .int .i64 2, .str (s.extract a (a + m))] = encTks [(⟨a, (a + m : Nat), 2, s.extract a (a + m)⟩ : Tok)] from rfl] at *
          obtain ⟨o, rfl⟩ := hA6.is
          rw [← List.append_assoc] at hp
          have hlA : (A ++ [(⟨a, (a + m : Nat), 2, s.extract a (a + m)⟩ : Tok)]).length = A.length + 1 := by rw [List.length_append]; rfl
          rw [← encTks_append, ← hlA] at hA6
          rw [← encTks_append, ← hlA]
          simp -dsimp only [h6, hs1, e2, hm, w1, w2, max_if2, imax_nat, imax_one, gate, decide_true, decide_false, Bool.not_true, Bool.not_false, bTT, bTF, bFT, bFF, ↓preB, postB, genB, ↓reduceIte, Nat.reduceEqDiff, Int.reduceToNat, Int.reduceLE, Int.reduceLT, Nat.reduceAdd, Nat.reduceLeDiff, intBin, strBin, unD, extractD, lit1, lit2, lit3, keptD, boxR, D.one, D.pub1, D.cells, splice, cutOwn]
          exact ⟨(k, a + m, A ++ [(⟨a, (a + m : Nat), 2, s.extract a (a + m)⟩ : Tok)]), ⟨hp, by simp only []; omega, by simp only []; omega, hA6, rfl⟩, Nat.lt_succ_self _⟩
      · rw [q1, if_pos rfl] at hp
        simp -dsimp only [h6, hs1, e2, a0, a1, q1, exitR_ret, gate, decide_true, decide_false, Bool.not_true, Bool.not_false, bTT, bTF, bFT, bFF, ↓preB, postB, genB, ↓reduceIte, Nat.reduceEqDiff, Int.reduceToNat, Int.reduceLE, Int.reduceLT, Nat.reduceAdd, Nat.reduceLeDiff, intBin, strBin, unD, extractD, lit1, lit2, lit3, keptD, boxR, D.one, D.pub1, D.cells, splice, cutOwn]
        exact ⟨(k, a + 1, A), ⟨hp, by simp only []; omega, by simp only []; omega, hacc, wrap64_succ (by simp only [big]; omega)⟩, Nat.lt_succ_self _⟩
    · have : cutW c s k a = [] := by
        cases k with
        | zero => rfl
        | succ k => rw [cutW_step, if_neg (by omega)]
      rw [this, List.append_nil] at hp
      simp -dsimp only [h6, hs1, e2, a0, exitR_exit, gate, decide_true, decide_false, Bool.not_true, Bool.not_false, bTT, bTF, bFT, bFF, ↓preB, postB, genB, ↓reduceIte, Nat.reduceEqDiff, Int.reduceToNat, Int.reduceLE, Int.reduceLT, Nat.reduceAdd, Nat.reduceLeDiff, intBin, strBin, unD, extractD, lit1, lit2, lit3, keptD, boxR, D.one, D.pub1, D.cells, splice, cutOwn]
      rw [hp]
      exact fun _ => hacc
  · rintro env τ hacc
    simp -dsimp only [↓preB, postB, genB, ↓reduceIte, Nat.reduceEqDiff, Int.reduceToNat, Int.reduceLE, Int.reduceLT, Nat.reduceAdd, Nat.reduceLeDiff, intBin, strBin, unD, extractD, lit1, lit2, lit3, keptD, boxR, D.one, D.pub1, D.cells, splice, cutOwn]
    exact Ret.less (hle1.trans hacc.le) hcl hacc.told (.no (bel_tks _))
end Go.Proofs.YtapkbkniooleaaaGreat.Vs
