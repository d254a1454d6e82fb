/- numbers of Ytapkbkniooleaaa -/
import Derived.Test.YtapkbkniooleaaaTkB
import Derived.Test.YtapkbkniooleaaaTkD1
namespace Go.Proofs.Ytapkbkniooleaaa.Vs
set_option linter.unusedVariables false
set_option linter.unusedSimpArgs false
set_option maxRecDepth 100000
structure Cut where
  words : Wd
  short : Wd
  front : Wd
  back : Wd
def cellsC (c : Cut) : List D := [encSS c.words, encSS c.short, encSS c.front, encSS c.back]
def encC (c : Cut) : D := .agg (cellsC c)
theorem bel_C {N : Nat} (c : Cut) : ∀ d ∈ cellsC c, Bel N d := fun d hd => by
  simp only [cellsC, List.mem_cons, List.not_mem_nil, or_false] at hd
  rcases hd with rfl | rfl | rfl | rfl <;> exact .no (bel_strs _)
theorem edgeS_lt {p : ByteArray → ByteArray → Bool} {s : ByteArray} {b : Nat} {x : ByteArray} (h : b = 0 ∨ b < s.size) : edgeS p s b x = 0 ∨ edgeS p s b x < s.size := by
  unfold edgeS
  split
  · rename_i hc
    simp only [Bool.and_eq_true, decide_eq_true_eq] at hc
    exact .inr hc.1.2
  · exact h
theorem edgeW_lt (p : ByteArray → ByteArray → Bool) (l : List ByteArray) (s : ByteArray) : edgeW p l s = 0 ∨ edgeW p l s < s.size := by
  have key : ∀ (l : List ByteArray) (b : Nat), (b = 0 ∨ b < s.size) → (l.foldl (edgeS p s) b = 0 ∨ l.foldl (edgeS p s) b < s.size) := by
    intro l
    induction l with
    | nil => exact fun b h => h
    | cons x l ih => exact fun b h => ih _ (edgeS_lt h)
  exact key l 0 (.inl rfl)
theorem bel_tk {N : Nat} (t : Tok) : ∀ d ∈ encTk t, Bel N d := fun d hd => by
  simp only [encTk, List.mem_cons, List.not_mem_nil, or_false] at hd
  rcases hd with rfl | rfl | rfl | rfl
  · exact .int _ _
  · exact .int _ _
  · exact .int _ _
  · exact .str _
theorem bel_tks {N : Nat} (l : List Tok) : ∀ d ∈ encTks l, Bel N d := fun d hd => by
  obtain ⟨t, _, h⟩ := List.mem_flatMap.1 hd
  exact bel_tk t d h
theorem frontW_zero {l : List ByteArray} {k f : Nat} {s : ByteArray} (h : edgeW preW l (lowB s) = 0) : frontW l k f s = ([], f, s) := by
  cases k with
  | zero => rfl
  | succ k => simp only [frontW, h, if_true]
theorem backW_zero {l : List ByteArray} {k f : Nat} {s : ByteArray} (h : edgeW sufW l (lowB s) = 0) : backW l k f s = ([], s) := by
  cases k with
  | zero => rfl
  | succ k => simp only [backW, h, if_true]
theorem ab35 (a b k : Int) (s : ByteArray) : aBuilt Zs 35 [(0, .int .i64 a), (1, .int .i64 b), (2, .int .i64 k), (3, .str s)] = some [.int .i64 a, .int .i64 b, .int .i64 k, .str s] := by rfl
theorem bs27 (a b k : Int) (s : ByteArray) (nx : Nat) : buildSliceR Zs 0 27 1 [(0, .agg [.int .i64 a, .int .i64 b, .int .i64 k, .str s])] nx = some (.sl .full 1 [.int .i64 a, .int .i64 b, .int .i64 k, .str s], .keep) := by rfl
theorem clitics_c (c : Cut) (f0 : Nat) (s0 : ByteArray) (hf0 : f0 ≤ 1000000) (hs0 : s0.size ≤ 1000000) : Fn Zs 18 [encC c, .int .i64 f0, .str s0] (.sl .no (cliticsW c.front c.back f0 s0).length (encTks (cliticsW c.front c.back f0 s0))) := by
  refine fn_of (Z := Zs) ok18 fun σ hcl hbl => ?_
  simp -dsimp only [L18, encC, ↓preB, postB, genB, ↓reduceIte, Nat.reduceEqDiff, Int.reduceToNat, Int.reduceLE, Int.reduceLT, Nat.reduceAdd, Nat.reduceLeDiff, intBin, strBin, unD, extractD, lit1, lit2, lit3, keptD, boxR, D.one, D.pub1, D.cells, splice, cutOwn]
  have hcl1 : Closed (σ.new (.cells 24 (cellsC c))) := hcl.new (bel_C c)
  have hget : ∀ {s : Heap}, HLe (σ.new (.cells 24 (cellsC c))) s → s.get σ.next = some (.cells 24 (cellsC c)) := fun h => h.get _ _ (Heap.new_same _ _)
  refine pwp_loopG (fun (x : Nat × List Tok × Nat × ByteArray) env s => (frontW c.front s0.size f0 s0).1 = x.2.1 ++ (frontW c.front x.1 x.2.2.1 x.2.2.2).1 ∧ (frontW c.front s0.size f0 s0).2 = (frontW c.front x.1 x.2.2.1 x.2.2.2).2 ∧ x.2.2.2.size ≤ x.1 ∧ x.2.2.1 + x.2.2.2.size = f0 + s0.size ∧ x.2.1.length + x.2.2.2.size ≤ s0.size ∧
      RT (σ.new (.cells 24 (cellsC c))) 35 4 0 [] (env 8) 35 4 x.2.1.length (encTks x.2.1) (env 7) s ∧ env 3 = .ptr σ.next 0 ∧ env 1 = .int .i64 (x.2.2.1 : Nat) ∧ env 2 = .str x.2.2.2) (fun x => x.1) (s0.size, [], f0, s0) ?_ ?_
  · simp only [upd_apply, envOf_apply, Nat.reduceEqDiff, if_true, if_false]
    exact ⟨rfl, trivial, Nat.le_refl _, trivial, by simp, RT.start hcl1, trivial, rfl, rfl⟩
  · rintro ⟨k, A, f, s⟩ env τ ⟨h1, h2, hsk, hfs, hA, hR, e3, e1, e2⟩
    simp only [] at h1 h2 hsk hfs hA hR e1 e2
    have hg := hget hR.le
    have hl : (lowB s).size = s.size := lowB_size s
    have hn := edgeW_lt preW c.front (lowB s)
    rw [hl] at hn
    have hE := edge_c 36 preW HasPrefix_c c.front (lowB s)
    simp -dsimp only [↓preB, postB, genB, ↓reduceIte, Nat.reduceEqDiff, Int.reduceToNat, Int.reduceLE, Int.reduceLT, Nat.reduceAdd, Nat.reduceLeDiff, intBin, strBin, unD, extractD, lit1, lit2, lit3, keptD, boxR, D.one, D.pub1, D.cells, splice, cutOwn]
    refine draw_t 4 (by decide) ?_
    simp -dsimp only [cellsC, e3, e1, e2, hg, List.getElem?_cons_zero, List.getElem?_cons_succ, List.take_succ_cons, List.take_zero, List.drop_succ_cons, List.drop_zero, ↓preB, postB, genB, ↓reduceIte, Nat.reduceEqDiff, Int.reduceToNat, Int.reduceLE, Int.reduceLT, Nat.reduceAdd, Nat.reduceLeDiff, intBin, strBin, unD, extractD, lit1, lit2, lit3, keptD, boxR, D.one, D.pub1, D.cells, splice, cutOwn]
    refine Fn.useS (Lower_c s) ?_
    simp -dsimp only [cellsC, e3, e1, e2, hg, List.getElem?_cons_zero, List.getElem?_cons_succ, List.take_succ_cons, List.take_zero, List.drop_succ_cons, List.drop_zero, ↓preB, postB, genB, ↓reduceIte, Nat.reduceEqDiff, Int.reduceToNat, Int.reduceLE, Int.reduceLT, Nat.reduceAdd, Nat.reduceLeDiff, intBin, strBin, unD, extractD, lit1, lit2, lit3, keptD, boxR, D.one, D.pub1, D.cells, splice, cutOwn]
    refine Fn.use hE ?_
    by_cases h0 : edgeW preW c.front (lowB s) = 0
    · have c0 : (((0 : Nat) : Int) == 0) = true := rfl
      simp -dsimp only [h0, c0, cellsC, e3, e1, e2, hg, List.getElem?_cons_zero, List.getElem?_cons_succ, ↓preB, postB, genB, ↓reduceIte, Nat.reduceEqDiff, Int.reduceToNat, Int.reduceLE, Int.reduceLT, Nat.reduceAdd, Nat.reduceLeDiff, intBin, strBin, unD, extractD, lit1, lit2, lit3, keptD, boxR, D.one, D.pub1, D.cells, splice, cutOwn]
      rw [frontW_zero h0, List.append_nil] at h1
      rw [frontW_zero h0] at h2
      have hcw : cliticsW c.front c.back f0 s0 = A ++ ⟨f, (f + (backW c.back s.size f s).2.size : Nat), 0, (backW c.back s.size f s).2⟩ :: (backW c.back s.size f s).1.reverse := by
        unfold cliticsW
        simp only [h1, h2]
      rw [hcw]
      clear hcw h1 h2 hg hl hn hE h0 c0
      refine pwp_loopG (fun (x : Nat × List Tok × ByteArray) env τ => (backW c.back s.size f s).1 = x.2.1 ++ (backW c.back x.1 f x.2.2).1 ∧ (backW c.back s.size f s).2 = (backW c.back x.1 f x.2.2).2 ∧ x.2.2.size ≤ x.1 ∧ x.2.1.length + x.2.2.size ≤ s.size ∧
          RT (σ.new (.cells 24 (cellsC c))) 35 4 x.2.1.length (encTks x.2.1) (env 8) 35 4 A.length (encTks A) (env 7) τ ∧ env 3 = .ptr σ.next 0 ∧ env 1 = .int .i64 (f : Nat) ∧ env 2 = .str x.2.2) (fun x => x.1) (s.size, [], s) ?_ ?_
      · simp only [upd_apply, e3, e1, e2, Nat.reduceEqDiff, if_true, if_false]
        exact ⟨rfl, trivial, Nat.le_refl _, by simp, hR, trivial, trivial, trivial⟩
      · clear hR e3 e1 e2 hsk
        generalize hS : s.size = S at *
        rintro ⟨k, B, s⟩ env τ ⟨h1, h2, hsk, hB, hR, e3, e1, e2⟩
        simp only [] at h1 h2 hsk hB hR e1 e2
        have hg := hget hR.le
        have hl : (lowB s).size = s.size := lowB_size s
        have hn := edgeW_lt sufW c.back (lowB s)
        rw [hl] at hn
        have hE := edge_c 37 sufW HasSuffix_c c.back (lowB s)
        simp -dsimp only [↓preB, postB, genB, ↓reduceIte, Nat.reduceEqDiff, Int.reduceToNat, Int.reduceLE, Int.reduceLT, Nat.reduceAdd, Nat.reduceLeDiff, intBin, strBin, unD, extractD, lit1, lit2, lit3, keptD, boxR, D.one, D.pub1, D.cells, splice, cutOwn]
        refine draw_t 4 (by decide) ?_
        simp -dsimp only [cellsC, e3, e1, e2, hg, List.getElem?_cons_zero, List.getElem?_cons_succ, List.take_succ_cons, List.take_zero, List.drop_succ_cons, List.drop_zero, ↓preB, postB, genB, ↓reduceIte, Nat.reduceEqDiff, Int.reduceToNat, Int.reduceLE, Int.reduceLT, Nat.reduceAdd, Nat.reduceLeDiff, intBin, strBin, unD, extractD, lit1, lit2, lit3, keptD, boxR, D.one, D.pub1, D.cells, splice, cutOwn]
        refine Fn.useS (Lower_c s) ?_
        simp -dsimp only [cellsC, e3, e1, e2, hg, List.getElem?_cons_zero, List.getElem?_cons_succ, List.take_succ_cons, List.take_zero, List.drop_succ_cons, List.drop_zero, ↓preB, postB, genB, ↓reduceIte, Nat.reduceEqDiff, Int.reduceToNat, Int.reduceLE, Int.reduceLT, Nat.reduceAdd, Nat.reduceLeDiff, intBin, strBin, unD, extractD, lit1, lit2, lit3, keptD, boxR, D.one, D.pub1, D.cells, splice, cutOwn]
        refine Fn.use hE ?_
        by_cases h0 : edgeW sufW c.back (lowB s) = 0
        · have c0 : (((0 : Nat) : Int) == 0) = true := rfl
          rw [backW_zero h0, List.append_nil] at h1
          rw [backW_zero h0] at h2
          have w1 : IntKind.i64.wrap ((f : Int) + (s.size : Int)) = ((f + s.size : Nat) : Int) := by rw [wrap64_in (by omega) (by omega)]; omega
          simp -dsimp only [h0, c0, w1, ab35, bs27, cellsC, e3, e1, e2, hg, List.getElem?_cons_zero, List.getElem?_cons_succ, ↓preB, postB, genB, ↓reduceIte, Nat.reduceEqDiff, Int.reduceToNat, Int.reduceLE, Int.reduceLT, Nat.reduceAdd, Nat.reduceLeDiff, intBin, strBin, unD, extractD, lit1, lit2, lit3, keptD, boxR, D.one, D.pub1, D.cells, splice, cutOwn]
          intro _
          refine hR.appendTip hcl1 tz27 rfl tz35 rfl rfl rfl (by decide) (by rw [encTks_len]; simp only []; omega) (fedBy_sl (m := 1) tz27 rfl rfl) (by decide) (by simp only []; omega) (by simp only [big]; omega) fun d4 τ4 hR4 => ?_
          rw [h1, h2]
          simp -dsimp only [cellsC, e3, e1, e2, hg, List.getElem?_cons_zero, List.getElem?_cons_succ, ↓preB, postB, genB, ↓reduceIte, Nat.reduceEqDiff, Int.reduceToNat, Int.reduceLE, Int.reduceLT, Nat.reduceAdd, Nat.reduceLeDiff, intBin, strBin, unD, extractD, lit1, lit2, lit3, keptD, boxR, D.one, D.pub1, D.cells, splice, cutOwn]
          have key : PCall Zs 38 [env 8] τ4 (fun d τ' => d = .tup [] ∧ ∃ m, m = B.length ∧ fedBy Zs τ'.get 27 4 (env 8) = some (m, encTks B.reverse) ∧ Acc 35 4 (σ.new (.cells 24 (cellsC c))) (A.length + 1) (encTks A ++ [.int .i64 f, .int .i64 (f + s.size : Nat), .int .i64 0, .str s]) d4 τ') := by
            have acc : ∀ τ', HLe (σ.new (.cells 24 (cellsC c))) τ' → (∀ r e n, τ4.get r = some (.tip e n) → τ'.get r = some (.tip e n)) → Acc 35 4 (σ.new (.cells 24 (cellsC c))) (A.length + 1) (encTks A ++ [.int .i64 f, .int .i64 (f + s.size : Nat), .int .i64 0, .str s]) d4 τ' := fun τ' hle hk => by
              rcases hR4.two with ⟨g1, g2, g3⟩ | ⟨r, g1, g2, g3⟩
              · exact absurd g1 (by omega)
              · exact .inr (.inr ⟨r, g2, g1, hk _ _ _ g3, hle⟩)
            rcases hR4.one with ⟨g1, g2, g3⟩ | ⟨r, js, g1, g2, g3, g4⟩
            · have hB0 : B = [] := List.eq_nil_of_length_eq_zero g1
              rw [g3]
              refine (Reverse_nil τ4).mono fun d τ' ⟨q1, q2⟩ => ⟨q1, 0, by rw [hB0]; rfl, by rw [hB0]; rfl, ?_⟩
              rw [q2]
              exact acc _ hR4.le fun _ _ _ h => h
            · rw [g1]
              refine (Reverse_p B r js τ4 g3 (hR4.lt _ _ g3)).mono fun d τ' ⟨q1, q2⟩ => ⟨q1, B.length, rfl, ?_, ?_⟩
              · rw [q2]
                have hlen := encTks_len B.reverse
                rw [List.length_reverse] at hlen
                simp only [fedBy, tz27, Heap.set_same, List.length_append, List.drop_zero]
                rw [if_pos (by omega), List.take_append_of_le_length (by omega), List.take_of_length_le (by omega)]
              · rw [q2]
                refine acc _ (hR4.le.set_out _ hcl1 g2) fun r' e n hr' => ?_
                rw [Heap.set_ne _ _ (fun e0 => by rw [e0, g3] at hr'; cases hr')]
                exact hr'
          refine PCall.use key ?_
          rintro d5 τ5 ⟨rfl, m, rfl, hfed, hAcc⟩
          simp -dsimp only [cellsC, e3, e1, e2, hg, List.getElem?_cons_zero, List.getElem?_cons_succ, ↓preB, postB, genB, ↓reduceIte, Nat.reduceEqDiff, Int.reduceToNat, Int.reduceLE, Int.reduceLT, Nat.reduceAdd, Nat.reduceLeDiff, intBin, strBin, unD, extractD, lit1, lit2, lit3, keptD, boxR, D.one, D.pub1, D.cells, splice, cutOwn]
          refine Acc.append hAcc hcl1 tz27 rfl tz35 rfl rfl rfl (by decide) (by rw [List.length_append, encTks_len]; simp only [List.length_cons, List.length_nil]; omega) hfed (by simp only []; omega) (by simp only [big]; omega) fun d6 τ6 hA6 => ?_
          simp -dsimp only [↓preB, postB, genB, ↓reduceIte, Nat.reduceEqDiff, Int.reduceToNat, Int.reduceLE, Int.reduceLT, Nat.reduceAdd, Nat.reduceLeDiff, intBin, strBin, unD, extractD, lit1, lit2, lit3, keptD, boxR, D.one, D.pub1, D.cells, splice, cutOwn]
          have eq1 : (A ++ (⟨f, (f + s.size : Nat), 0, s⟩ : Tok) :: B.reverse).length = A.length + 1 + B.length := by simp; omega
          have eq2 : encTks (A ++ (⟨f, (f + s.size : Nat), 0, s⟩ : Tok) :: B.reverse) = encTks A ++ [.int .i64 f, .int .i64 (f + s.size : Nat), .int .i64 0, .str s] ++ encTks B.reverse := by
            rw [encTks_append, encTks_cons, List.append_assoc]; rfl
          rw [eq1, eq2]
          refine Ret.less ((HLe.self_new _ hcl).trans hA6.le) hcl hA6.told (.no ?_)
          rw [← eq2]
          exact bel_tks _
        · obtain ⟨k, rfl⟩ : ∃ j, k = j + 1 := ⟨k - 1, by omega⟩
          simp only [backW, if_neg h0] at h1 h2
          generalize edgeW sufW c.back (lowB s) = n at *
          have c0 : ((n : Int) == 0) = false := by simp only [beq_eq_false_iff_ne, ne_eq]; omega
          have w2 : IntKind.i64.wrap ((s.size : Int) - (n : Int)) = ((s.size - n : Nat) : Int) := by rw [wrap64_in (by omega) (by omega)]; omega
          have w1 : IntKind.i64.wrap ((f : Int) + ((s.size - n : Nat) : Int)) = ((f + (s.size - n) : Nat) : Int) := by rw [wrap64_in (by omega) (by omega)]; omega
          have w3 : IntKind.i64.wrap ((f : Int) + (s.size : Int)) = ((f + s.size : Nat) : Int) := by rw [wrap64_in (by omega) (by omega)]; omega
          have c1 : (0 : Int) ≤ ((s.size - n : Nat) : Int) ∧ ((s.size - n : Nat) : Int) ≤ s.size := ⟨by omega, by omega⟩
          simp -dsimp only [ab35, bs27, c0, w1, w2, w3, c1, cellsC, e3, e1, e2, hg, List.getElem?_cons_zero, List.getElem?_cons_succ, ↓preB, postB, genB, ↓reduceIte, Nat.reduceEqDiff, Int.reduceToNat, Int.reduceLE, Int.reduceLT, Nat.reduceAdd, Nat.reduceLeDiff, intBin, strBin, unD, extractD, lit1, lit2, lit3, keptD, boxR, D.one, D.pub1, D.cells, splice, cutOwn]
          refine fun _ _ => ⟨Int.le_refl _, hR.appendRow hcl1 tz27 rfl tz35 rfl rfl rfl (by decide) (by rw [encTks_len]; simp only []; omega) (fedBy_sl (m := 1) tz27 rfl rfl) (by decide) (by simp only []; omega) (by simp only [big]; omega) fun d4 τ4 hR4 hk4 => ?_⟩
          simp -dsimp only [c0, w1, w2, w3, c1, cellsC, e3, e1, e2, List.getElem?_cons_zero, List.getElem?_cons_succ, ↓preB, postB, genB, ↓reduceIte, Nat.reduceEqDiff, Int.reduceToNat, Int.reduceLE, Int.reduceLT, Nat.reduceAdd, Nat.reduceLeDiff, intBin, strBin, unD, extractD, lit1, lit2, lit3, keptD, boxR, D.one, D.pub1, D.cells, splice, cutOwn]
          refine ⟨by omega, (k, B ++ [⟨(f + (s.size - n) : Nat), (f + s.size : Nat), 5, s.extract (s.size - n) s.size⟩], s.extract 0 (s.size - n)), ⟨by rw [h1]; simp, h2, ?_, ?_, ?_, rfl⟩, Nat.lt_succ_self _⟩
          · simp only [ByteArray.size_extract]; omega
          · simp only [ByteArray.size_extract, List.length_append, List.length_cons, List.length_nil]; omega
          · simp only [List.length_append, List.length_cons, List.length_nil, encTks_append]
            exact hR4
    · obtain ⟨k, rfl⟩ : ∃ j, k = j + 1 := ⟨k - 1, by omega⟩
      simp only [frontW, if_neg h0] at h1 h2
      generalize edgeW preW c.front (lowB s) = n at *
      have c0 : ((n : Int) == 0) = false := by simp only [beq_eq_false_iff_ne, ne_eq]; omega
      have w1 : IntKind.i64.wrap ((f : Int) + (n : Int)) = ((f + n : Nat) : Int) := by rw [wrap64_in (by omega) (by omega)]; omega
      have c1 : (0 : Int) ≤ n ∧ (n : Int) ≤ s.size := ⟨by omega, by omega⟩
      simp -dsimp only [c0, w1, c1, cellsC, e3, e1, e2, hg, List.getElem?_cons_zero, List.getElem?_cons_succ, ↓preB, postB, genB, ↓reduceIte, Nat.reduceEqDiff, Int.reduceToNat, Int.reduceLE, Int.reduceLT, Nat.reduceAdd, Nat.reduceLeDiff, intBin, strBin, unD, extractD, lit1, lit2, lit3, keptD, boxR, D.one, D.pub1, D.cells, splice, cutOwn]
      simp -dsimp only [ab35, bs27, c0, w1, c1, cellsC, e3, e1, e2, hg, List.getElem?_cons_zero, List.getElem?_cons_succ, ↓preB, postB, genB, ↓reduceIte, Nat.reduceEqDiff, Int.reduceToNat, Int.reduceLE, Int.reduceLT, Nat.reduceAdd, Nat.reduceLeDiff, intBin, strBin, unD, extractD, lit1, lit2, lit3, keptD, boxR, D.one, D.pub1, D.cells, splice, cutOwn]
      refine ⟨by omega, hR.appendTip hcl1 tz27 rfl tz35 rfl rfl rfl (by decide) (by rw [encTks_len]; simp only []; omega) (fedBy_sl (m := 1) tz27 rfl rfl) (by decide) (by simp only []; omega) (by simp only [big]; omega) fun d4 τ4 hR4 => ?_⟩
      have hg4 := hget hR4.le
      simp -dsimp only [c0, w1, c1, cellsC, e3, e1, e2, hg4, List.getElem?_cons_zero, List.getElem?_cons_succ, ↓preB, postB, genB, ↓reduceIte, Nat.reduceEqDiff, Int.reduceToNat, Int.reduceLE, Int.reduceLT, Nat.reduceAdd, Nat.reduceLeDiff, intBin, strBin, unD, extractD, lit1, lit2, lit3, keptD, boxR, D.one, D.pub1, D.cells, splice, cutOwn]
      refine draw_p _ rfl rfl rfl rfl ?_
      simp only [List.filterMap_cons, List.filterMap_nil, List.getElem?_cons_succ, List.getElem?_cons_zero, pOps, keepKind, hfKind, Bool.or_false, Bool.or_true, Bool.false_eq_true, if_true, if_false]
      simp -dsimp only [c0, w1, c1, cellsC, e3, e1, e2, hg4, List.getElem?_cons_zero, List.getElem?_cons_succ, ↓preB, postB, genB, ↓reduceIte, Nat.reduceEqDiff, Int.reduceToNat, Int.reduceLE, Int.reduceLT, Nat.reduceAdd, Nat.reduceLeDiff, intBin, strBin, unD, extractD, lit1, lit2, lit3, keptD, boxR, D.one, D.pub1, D.cells, splice, cutOwn]
      refine ⟨Int.le_refl _, (k, A ++ [⟨f, (f + n : Nat), 4, s.extract 0 n⟩], f + n, s.extract n s.size), ⟨?_, h2, ?_, ?_, ?_, ?_, rfl, rfl⟩, Nat.lt_succ_self _⟩
      · rw [h1]; simp
      · simp only [ByteArray.size_extract]; omega
      · simp only [ByteArray.size_extract]; omega
      · simp only [ByteArray.size_extract, List.length_append, List.length_cons, List.length_nil]; omega
      · simp only [List.length_append, List.length_cons, List.length_nil, encTks_append]
        exact hR4
end Go.Proofs.Ytapkbkniooleaaa.Vs
