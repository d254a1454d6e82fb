/- numbers of Ytapkbkniooleaaa -/
import Derived.Test.YtapkbkniooleaaaGreatTkL
namespace Go.Proofs.YtapkbkniooleaaaGreat.Vs
set_option linter.unusedVariables false
set_option linter.unusedSimpArgs false
set_option maxRecDepth 100000
theorem isCliticR_c (s : ByteArray) : Fn Zs 51 [.str s] (.bool (clitB s)) := by
  refine fn_of (Z := Zs) ok51 fun σ hcl hbl => ?_
  simp -dsimp only [L51, ↓preB, postB, genB, ↓reduceIte, Nat.reduceEqDiff, Int.reduceToNat, Int.reduceLE, Int.reduceLT, Nat.reduceAdd, Nat.reduceLeDiff, intBin, strBin, unD, extractD, lit1, lit2, lit3, keptD, boxR, D.one, D.pub1, D.cells, splice, cutOwn]
  refine pwp_loopG (fun k env τ => k ≤ s.size ∧ (∀ j, j < k → (isSmallI (byteAt s j) || (byteAt s j == 39 || byteAt s j == 45)) = true) ∧ τ = σ ∧ env 3 = .int .i64 (k:Nat) ∧ env 0 = .str s) (fun k => s.size - k) 0 ?_ ?_
  · simp only [upd_apply, envOf_apply, Nat.reduceEqDiff, if_true, if_false]
    exact ⟨Nat.zero_le _, fun j hj => absurd hj (Nat.not_lt_zero _), (by first | trivial | rfl | omega), (by first | trivial | rfl | omega), (by first | trivial | rfl | omega)⟩
  · rintro k env τ ⟨hk, hp, rfl, h3, h0⟩
    rcases Nat.lt_or_ge k s.size with hlt | hge
    · have hn : (k : Int) < s.size := by omega
      simp -dsimp only [h3, h0, hn, hlt, ↓preB, postB, genB, ↓reduceIte, Nat.reduceEqDiff, Int.reduceToNat, Int.reduceLE, Int.reduceLT, Nat.reduceAdd, Nat.reduceLeDiff, intBin, strBin, unD, extractD, lit1, lit2, lit3, keptD, boxR, D.one, D.pub1, D.cells, splice, cutOwn]
      intro hb
      refine Fn.use (isSmallR_c _) ?_
      have go : (isSmallI (byteAt s k) || (byteAt s k == 39 || byteAt s k == 45)) = true → ∃ y, (y ≤ s.size ∧ (∀ j, j < y → (isSmallI (byteAt s j) || (byteAt s j == 39 || byteAt s j == 45)) = true) ∧ IntKind.i64.wrap ((k : Int) + 1) = ((y : Nat) : Int)) ∧ s.size - y < s.size - k := fun h => ⟨k + 1, ⟨by omega, fun j hj => by
        by_cases e : j = k
        · subst e; exact h
        · exact hp j (by omega), wrap64_succ (by omega)⟩, by omega⟩
      have no : (isSmallI (byteAt s k) || (byteAt s k == 39 || byteAt s k == 45)) = false → clitB s = false := fun h => List.all_eq_false.2 ⟨k, List.mem_range.2 hlt, by rw [h]; simp⟩
      cases e1 : isSmallI (byteAt s k)
      · by_cases e2 : byteAt s k = 39
        · have k1 : (byteAt s k != 39) = false := by rw [e2]; rfl
          simp -dsimp only [h3, h0, hn, hlt, e1, k1, gate, decide_true, decide_false, Bool.not_true, Bool.not_false, bTT, bTF, bFT, bFF, ↓preB, postB, genB, ↓reduceIte, Nat.reduceEqDiff, Int.reduceToNat, Int.reduceLE, Int.reduceLT, Nat.reduceAdd, Nat.reduceLeDiff, intBin, strBin, unD, extractD, lit1, lit2, lit3, keptD, boxR, D.one, D.pub1, D.cells, splice, cutOwn]
          exact go (by rw [e2]; simp)
        · have k1 : (byteAt s k != 39) = true := by simpa using e2
          by_cases e3 : byteAt s k = 45
          · have k2 : (byteAt s k != 45) = false := by rw [e3]; rfl
            simp -dsimp only [h3, h0, hn, hlt, e1, k1, k2, gate, decide_true, decide_false, Bool.not_true, Bool.not_false, bTT, bTF, bFT, bFF, ↓preB, postB, genB, ↓reduceIte, Nat.reduceEqDiff, Int.reduceToNat, Int.reduceLE, Int.reduceLT, Nat.reduceAdd, Nat.reduceLeDiff, intBin, strBin, unD, extractD, lit1, lit2, lit3, keptD, boxR, D.one, D.pub1, D.cells, splice, cutOwn]
            exact go (by rw [e3]; simp)
          · have k2 : (byteAt s k != 45) = true := by simpa using e3
            simp -dsimp only [h3, h0, hn, hlt, e1, k1, k2, gate, decide_true, decide_false, Bool.not_true, Bool.not_false, bTT, bTF, bFT, bFF, ↓preB, postB, genB, ↓reduceIte, Nat.reduceEqDiff, Int.reduceToNat, Int.reduceLE, Int.reduceLT, Nat.reduceAdd, Nat.reduceLeDiff, intBin, strBin, unD, extractD, lit1, lit2, lit3, keptD, boxR, D.one, D.pub1, D.cells, splice, cutOwn]
            exact Ret.is (by rw [no (by rw [e1]; simp [e2, e3])])
      · simp -dsimp only [h3, h0, hn, hlt, e1, gate, decide_true, decide_false, Bool.not_true, Bool.not_false, bTT, bTF, bFT, bFF, ↓preB, postB, genB, ↓reduceIte, Nat.reduceEqDiff, Int.reduceToNat, Int.reduceLE, Int.reduceLT, Nat.reduceAdd, Nat.reduceLeDiff, intBin, strBin, unD, extractD, lit1, lit2, lit3, keptD, boxR, D.one, D.pub1, D.cells, splice, cutOwn]
        exact go (by rw [e1]; rfl)
    · have hn : ¬ (k : Int) < s.size := by omega
      simp -dsimp only [h3, h0, hn, ↓preB, postB, genB, ↓reduceIte, Nat.reduceEqDiff, Int.reduceToNat, Int.reduceLE, Int.reduceLT, Nat.reduceAdd, Nat.reduceLeDiff, intBin, strBin, unD, extractD, lit1, lit2, lit3, keptD, boxR, D.one, D.pub1, D.cells, splice, cutOwn]
      intro _
      refine Ret.is ?_
      congr 1
      symm
      simp only [clitB, List.all_eq_true, List.mem_range]
      exact fun j hj => hp j (by omega)
theorem ba_decT (a b : ByteArray) : (a == b) = decide (a = b) := by
  by_cases h : a = b
  · subst h; rw [ba_refl]; simp
  · rw [decide_eq_false h, Bool.eq_false_iff]
    exact fun e => h (ba_eq e)
theorem twice_c (l : Wd) : Fn Zs 52 [encSS l] (.bool (dupB l)) := by
  refine fn_of (Z := Zs) ok52 fun σ hcl hbl => ?_
  simp -dsimp only [L52, encSS, ↓preB, postB, genB, ↓reduceIte, Nat.reduceEqDiff, Int.reduceToNat, Int.reduceLE, Int.reduceLT, Nat.reduceAdd, Nat.reduceLeDiff, intBin, strBin, unD, extractD, lit1, lit2, lit3, keptD, boxR, D.one, D.pub1, D.cells, splice, cutOwn]
  refine pwp_loopG (fun i env τ => i ≤ l.length ∧ (∀ j k (hj : j < l.length) (hk : k < j), j < i → l[k] ≠ l[j]) ∧ τ = σ ∧ env 3 = .int .i64 (i:Nat) ∧ env 0 = encSS l) (fun i => l.length - i) 0 ?_ ?_
  · simp only [upd_apply, envOf_apply, Nat.reduceEqDiff, if_true, if_false]
    exact ⟨Nat.zero_le _, fun j k hj hk h => absurd h (Nat.not_lt_zero _), (by first | trivial | rfl | omega), (by first | trivial | rfl | omega), (by first | trivial | rfl | omega)⟩
  · rintro i env τ ⟨hi, hp, rfl, h3, h0⟩
    rcases Nat.lt_or_ge i l.length with hlt | hge
    · have hn : (i : Int) < l.length := by omega
      have hx : l[i]? = some l[i] := List.getElem?_eq_getElem hlt
      simp -dsimp only [h3, h0, hn, hlt, encSS, ↓preB, postB, genB, ↓reduceIte, Nat.reduceEqDiff, Int.reduceToNat, Int.reduceLE, Int.reduceLT, Nat.reduceAdd, Nat.reduceLeDiff, intBin, strBin, unD, extractD, lit1, lit2, lit3, keptD, boxR, D.one, D.pub1, D.cells, splice, cutOwn]
      intro hb
      refine pwp_loopJ 2 (fun e τ' => (∀ k (hk : k < i), l[k]'(by omega) ≠ l[i]) ∧ τ' = τ ∧ e 3 = .int .i64 (i:Nat) ∧ e 0 = encSS l) (fun k e τ' => k ≤ i ∧ (∀ k' (hk : k' < i), k' < k → l[k']'(by omega) ≠ l[i]) ∧ τ' = τ ∧ e 4 = .int .i64 (k:Nat) ∧ e 3 = .int .i64 (i:Nat) ∧ e 0 = encSS l) (fun k => i - k) 0 ?_ ?_ ?_
      · simp only [upd_apply, h3, h0, Nat.reduceEqDiff, if_true, if_false]
        exact ⟨Nat.zero_le _, fun j hj h => absurd h (Nat.not_lt_zero _), (by first | trivial | rfl | omega), (by first | trivial | rfl | omega), (by first | trivial | rfl | omega), (by first | trivial | rfl | omega)⟩
      · clear h3 h0
        rintro k e τ' ⟨hk, hq, rfl, h4, h3, h0⟩
        rcases Nat.lt_or_ge k i with kl | kg
        · have kn : (k : Int) < i := by omega
          have hk' : k < l.length := by omega
          have hy : l[k]? = some l[k] := List.getElem?_eq_getElem hk'
          have hl0 : 0 < l.length := by omega
          simp -dsimp only [h4, h3, h0, kn, hlt, hk', hl0, hx, hy, encSS, exitR_ret, ↓preB, postB, genB, ↓reduceIte, Nat.reduceEqDiff, Int.reduceToNat, Int.reduceLE, Int.reduceLT, Nat.reduceAdd, Nat.reduceLeDiff, intBin, strBin, unD, extractD, lit1, lit2, lit3, keptD, boxR, D.one, D.pub1, D.cells, splice, cutOwn]
          refine draw_s ?_
          simp -dsimp only [h4, h3, h0, kn, hlt, hk', hl0, hx, hy, encSS, exitR_ret, ↓preB, postB, genB, ↓reduceIte, Nat.reduceEqDiff, Int.reduceToNat, Int.reduceLE, Int.reduceLT, Nat.reduceAdd, Nat.reduceLeDiff, intBin, strBin, unD, extractD, lit1, lit2, lit3, keptD, boxR, D.one, D.pub1, D.cells, splice, cutOwn]
          cases q : (l[k] == l[i])
          · simp -dsimp only [h4, h3, h0, q, exitR_ret, gate, decide_true, decide_false, Bool.not_true, Bool.not_false, bTT, bTF, bFT, bFF, ↓preB, postB, genB, ↓reduceIte, Nat.reduceEqDiff, Int.reduceToNat, Int.reduceLE, Int.reduceLT, Nat.reduceAdd, Nat.reduceLeDiff, intBin, strBin, unD, extractD, lit1, lit2, lit3, keptD, boxR, D.one, D.pub1, D.cells, splice, cutOwn]
            exact ⟨k + 1, ⟨by omega, fun k' h1 h2 => by
              by_cases e : k' = k
              · subst e
                rw [ba_decT] at q
                exact of_decide_eq_false q
              · exact hq k' h1 (by omega), wrap64_succ (by omega)⟩, by omega⟩
          · simp -dsimp only [h4, h3, h0, q, exitR_ret, gate, decide_true, decide_false, Bool.not_true, Bool.not_false, bTT, bTF, bFT, bFF, ↓preB, postB, genB, ↓reduceIte, Nat.reduceEqDiff, Int.reduceToNat, Int.reduceLE, Int.reduceLT, Nat.reduceAdd, Nat.reduceLeDiff, intBin, strBin, unD, extractD, lit1, lit2, lit3, keptD, boxR, D.one, D.pub1, D.cells, splice, cutOwn]
            refine Ret.is ?_
            congr 1
            symm
            rw [dupB_iff]
            intro hN
            exact List.pairwise_iff_getElem.1 hN k i hk' hlt kl (ba_eq q)
        · have kn : ¬ (k : Int) < i := by omega
          simp -dsimp only [h4, h3, h0, kn, exitR_exit, ↓preB, postB, genB, ↓reduceIte, Nat.reduceEqDiff, Int.reduceToNat, Int.reduceLE, Int.reduceLT, Nat.reduceAdd, Nat.reduceLeDiff, intBin, strBin, unD, extractD, lit1, lit2, lit3, keptD, boxR, D.one, D.pub1, D.cells, splice, cutOwn]
          exact fun k' h => hq k' h (by omega)
      · clear h3 h0
        rintro e τ' ⟨hq, rfl, h3, h0⟩
        simp -dsimp only [h3, h0, ↓preB, postB, genB, ↓reduceIte, Nat.reduceEqDiff, Int.reduceToNat, Int.reduceLE, Int.reduceLT, Nat.reduceAdd, Nat.reduceLeDiff, intBin, strBin, unD, extractD, lit1, lit2, lit3, keptD, boxR, D.one, D.pub1, D.cells, splice, cutOwn]
        exact ⟨i + 1, ⟨by omega, fun j k hj hk h => by
          by_cases e : j = i
          · subst e; exact hq k hk
          · exact hp j k hj hk (by omega), wrap64_succ (by omega)⟩, by omega⟩
    · have hn : ¬ (i : Int) < l.length := by omega
      simp -dsimp only [h3, h0, hn, encSS, ↓preB, postB, genB, ↓reduceIte, Nat.reduceEqDiff, Int.reduceToNat, Int.reduceLE, Int.reduceLT, Nat.reduceAdd, Nat.reduceLeDiff, intBin, strBin, unD, extractD, lit1, lit2, lit3, keptD, boxR, D.one, D.pub1, D.cells, splice, cutOwn]
      intro _
      refine Ret.is ?_
      congr 1
      symm
      rw [Bool.eq_false_iff, ne_eq, dupB_iff, Classical.not_not]
      exact List.pairwise_iff_getElem.2 fun a b ha hb hab => hp b a hb hab (by omega)
theorem ab39 (a b c d : Wd) : aBuilt Zs 38 [(0, encSS a), (1, encSS b), (2, encSS c), (3, encSS d)] = some [encSS a, encSS b, encSS c, encSS d] := by rfl
def arrH (σ : Heap) (c : Cut) : Heap := ((σ.new (.cells 24 (cellsC c))).new (.cells 38 [D.sl .nil 0 [], D.sl .nil 0 [], D.sl .nil 0 [], D.sl .nil 0 []])).set (σ.next + 1) (.cells 38 (cellsC c))
theorem arrH_get (σ : Heap) (c : Cut) : (arrH σ c).get (σ.next + 1) = some (.cells 38 (cellsC c)) := Heap.set_same _ _ _
theorem arrH_le {σ : Heap} (hc : Closed σ) (c : Cut) : HLe σ (arrH σ c) := HLe.set_out _ (((HLe.self_new _ hc).new' _ hc)) hc (Nat.le_succ _)
theorem arr_new (σ : Heap) (o a : AO) : ((σ.new o).new a).get (σ.next + 1) = some a := Heap.new_same (σ.new o) a
theorem badS_R (k : Nat) (s : ByteArray) : badS k s = (decide (s.size = 0) || (decide (k < 2) && (isBlankI (byteAt s 0) || isBlankI (byteAt s (s.size - 1)))) || (decide (k = 1) && !(byteAt s (s.size - 1) == 46)) || (decide (1 < k) && !clitB s)) := by
  unfold badS unitB
  rw [Bool.not_and, Bool.not_not, Bool.not_not]
theorem ValidateR_c (c : Cut) : Fn Zs 32 [encC c] (.int .i64 (valW c)) := by
  refine fn_of (Z := Zs) ok32 fun σ hcl hbl => ?_
  simp -dsimp only [L32, encC, ↓preB, postB, genB, ↓reduceIte, Nat.reduceEqDiff, Int.reduceToNat, Int.reduceLE, Int.reduceLT, Nat.reduceAdd, Nat.reduceLeDiff, intBin, strBin, unD, extractD, lit1, lit2, lit3, keptD, boxR, D.one, D.pub1, D.cells, splice, cutOwn]
  simp -dsimp only [cellsC, List.getElem?_cons_zero, List.getElem?_cons_succ, ab39, Option.map_some, ↓preB, postB, genB, ↓reduceIte, Nat.reduceEqDiff, Int.reduceToNat, Int.reduceLE, Int.reduceLT, Nat.reduceAdd, Nat.reduceLeDiff, intBin, strBin, unD, extractD, lit1, lit2, lit3, keptD, boxR, D.one, D.pub1, D.cells, splice, cutOwn]
  simp -dsimp only [arr_new, List.length_cons, List.length_nil, Nat.le_refl, if_true, List.drop_succ_cons, List.drop_nil, ↓preB, postB, genB, ↓reduceIte, Nat.reduceEqDiff, Int.reduceToNat, Int.reduceLE, Int.reduceLT, Nat.reduceAdd, Nat.reduceLeDiff, intBin, strBin, unD, extractD, lit1, lit2, lit3, keptD, boxR, D.one, D.pub1, D.cells, splice, cutOwn]
  obtain ⟨H, hH⟩ : ∃ H, H = arrH σ c := ⟨_, rfl⟩
  have hH' := hH
  unfold arrH cellsC at hH'
  rw [← hH']
  clear hH'
  have hle1 : HLe σ H := by rw [hH]; exact arrH_le hcl c
  have hg1 : H.get (σ.next + 1) = some (.cells 38 (cellsC c)) := by rw [hH]; exact arrH_get σ c
  clear hH
  have done : ∀ (x : Int), Ret σ (fun d τ => d = .int .i64 x ∧ τ = σ) (.int .i64 x) H := fun x => Ret.isH hle1 hcl rfl (.int _ _)
  have hlen : (cellsC c).length = 4 := rfl
  refine pwp_loopJ 0 (fun e τ => (∀ j (h : j < 4), bigL ((lsC c)[j]'h) = false) ∧ τ = H ∧ e 3 = .ptr (σ.next + 1) 0) (fun k env τ => k ≤ 4 ∧ (∀ j (h : j < 4), j < k → bigL ((lsC c)[j]'h) = false) ∧ τ = H ∧ env 4 = .int .i64 (k:Nat) ∧ env 3 = .ptr (σ.next + 1) 0) (fun k => 4 - k) 0 ?_ ?_ ?_
  · simp only [upd_apply, envOf_apply, Nat.reduceEqDiff, if_true, if_false]
    exact ⟨Nat.zero_le _, fun j h hj => absurd hj (Nat.not_lt_zero _), (by first | trivial | rfl | omega), (by first | trivial | rfl | omega), (by first | trivial | rfl | omega)⟩
  · rintro k env τ ⟨hk, hp, rfl, h4, h3⟩
    rcases Nat.lt_or_ge k 4 with hlt | hge
    · have hn : (k : Int) < 4 := by omega
      have hx := lsC_at c hlt
      have yes : bigL ((lsC c)[k]'hlt) = true → valW c = 3 := fun h => by rw [valW, if_pos (any_ls_true c hlt h)]
      have no : bigL ((lsC c)[k]'hlt) = false → ∀ j (h : j < 4), j < k + 1 → bigL ((lsC c)[j]'h) = false := fun h j hj hjk => by
        by_cases e : j = k
        · subst e; exact h
        · exact hp j hj (by omega)
      generalize (lsC c)[k]'hlt = l at hx yes no
      simp -dsimp only [h4, h3, hn, hlt, hg1, hx, hlen, Nat.zero_add, encSS, exitR_ret, ↓preB, postB, genB, ↓reduceIte, Nat.reduceEqDiff, Int.reduceToNat, Int.reduceLE, Int.reduceLT, Nat.reduceAdd, Nat.reduceLeDiff, intBin, strBin, unD, extractD, lit1, lit2, lit3, keptD, boxR, D.one, D.pub1, D.cells, splice, cutOwn]
      intro hlb
      by_cases c1 : (300 : Int) < l.length
      · rw [if_pos c1, yes (by unfold bigL; rw [decide_eq_true (by omega), Bool.true_or])]
        exact done _
      rw [if_neg c1]
      have hbl : bigL l = l.any fun s => decide (400 < s.size) := by unfold bigL; rw [decide_eq_false (by omega), Bool.false_or]
      refine pwp_loopJ 2 (fun e τ' => bigL l = false ∧ τ' = τ ∧ e 4 = .int .i64 (k:Nat) ∧ e 3 = .ptr (σ.next + 1) 0) (fun i e τ' => i ≤ l.length ∧ (∀ j (h : j < l.length), j < i → ¬ 400 < l[j].size) ∧ τ' = τ ∧ e 5 = .int .i64 (i:Nat) ∧ e 4 = .int .i64 (k:Nat) ∧ e 3 = .ptr (σ.next + 1) 0) (fun i => l.length - i) 0 ?_ ?_ ?_
      · simp only [upd_apply, h4, h3, Nat.reduceEqDiff, if_true, if_false]
        exact ⟨Nat.zero_le _, fun j h hj => absurd hj (Nat.not_lt_zero _), (by first | trivial | rfl | omega), (by first | trivial | rfl | omega), (by first | trivial | rfl | omega), (by first | trivial | rfl | omega)⟩
      · clear h4 h3
        rintro i e τ' ⟨hi, hpi, rfl, h5, h4, h3⟩
        rcases Nat.lt_or_ge i l.length with hil | hig
        · have hni : (i : Int) < l.length := by omega
          have hxi : l[i]? = some l[i] := List.getElem?_eq_getElem hil
          have hl0 : 0 < l.length := by omega
          have yes1 : 400 < l[i].size → valW c = 3 := fun h => yes (by rw [hbl]; exact List.any_eq_true.2 ⟨_, List.getElem_mem hil, decide_eq_true h⟩)
          have wi := wrap64_succ (k := i) (by omega)
          have no1 : ¬ 400 < l[i].size → ∀ j (h : j < l.length), j < i + 1 → ¬ 400 < l[j].size := fun h j hj hjk => by
            by_cases e : j = i
            · subst e; exact h
            · exact hpi j hj (by omega)
          generalize l[i] = x at hxi yes1 no1
          by_cases c2 : (400 : Int) < x.size
          · rw [yes1 (by omega)]
            simp -dsimp only [h5, h4, h3, hlt, hg1, hx, hlen, hni, hil, hxi, hl0, c2, Nat.zero_add, encSS, exitR_ret, ↓preB, postB, genB, ↓reduceIte, Nat.reduceEqDiff, Int.reduceToNat, Int.reduceLE, Int.reduceLT, Nat.reduceAdd, Nat.reduceLeDiff, intBin, strBin, unD, extractD, lit1, lit2, lit3, keptD, boxR, D.one, D.pub1, D.cells, splice, cutOwn]
            exact fun _ _ => done _
          · simp -dsimp only [h5, h4, h3, hlt, hg1, hx, hlen, hni, hil, hxi, hl0, c2, Nat.zero_add, encSS, exitR_ret, ↓preB, postB, genB, ↓reduceIte, Nat.reduceEqDiff, Int.reduceToNat, Int.reduceLE, Int.reduceLT, Nat.reduceAdd, Nat.reduceLeDiff, intBin, strBin, unD, extractD, lit1, lit2, lit3, keptD, boxR, D.one, D.pub1, D.cells, splice, cutOwn]
            exact fun _ _ => ⟨i + 1, ⟨by omega, no1 (by omega), wi⟩, by omega⟩
        · have hni : ¬ (i : Int) < l.length := by omega
          simp -dsimp only [h5, h4, h3, hlt, hg1, hx, hlen, hni, Nat.zero_add, encSS, exitR_exit, ↓preB, postB, genB, ↓reduceIte, Nat.reduceEqDiff, Int.reduceToNat, Int.reduceLE, Int.reduceLT, Nat.reduceAdd, Nat.reduceLeDiff, intBin, strBin, unD, extractD, lit1, lit2, lit3, keptD, boxR, D.one, D.pub1, D.cells, splice, cutOwn]
          intro _
          rw [hbl]
          exact List.any_eq_false.2 fun x hx => by
            obtain ⟨j, hj, rfl⟩ := List.getElem_of_mem hx
            simpa using hpi j hj (by omega)
      · clear h4 h3
        rintro e τ' ⟨hb, rfl, h4, h3⟩
        simp -dsimp only [h4, h3, ↓preB, postB, genB, ↓reduceIte, Nat.reduceEqDiff, Int.reduceToNat, Int.reduceLE, Int.reduceLT, Nat.reduceAdd, Nat.reduceLeDiff, intBin, strBin, unD, extractD, lit1, lit2, lit3, keptD, boxR, D.one, D.pub1, D.cells, splice, cutOwn]
        exact ⟨k + 1, ⟨by omega, no hb, wrap64_succ (by simp only [big]; omega)⟩, by omega⟩
    · have hn : ¬ (k : Int) < 4 := by omega
      simp -dsimp only [h4, h3, hn, exitR_exit, ↓preB, postB, genB, ↓reduceIte, Nat.reduceEqDiff, Int.reduceToNat, Int.reduceLE, Int.reduceLT, Nat.reduceAdd, Nat.reduceLeDiff, intBin, strBin, unD, extractD, lit1, lit2, lit3, keptD, boxR, D.one, D.pub1, D.cells, splice, cutOwn]
      exact fun j hj => hp j hj (by omega)
  rintro env τ ⟨hbig, rfl, h3⟩
  have hbig0 : (lsC c).any bigL = false := any_ls_false c hbig
  simp -dsimp only [h3, ↓preB, postB, genB, ↓reduceIte, Nat.reduceEqDiff, Int.reduceToNat, Int.reduceLE, Int.reduceLT, Nat.reduceAdd, Nat.reduceLeDiff, intBin, strBin, unD, extractD, lit1, lit2, lit3, keptD, boxR, D.one, D.pub1, D.cells, splice, cutOwn]
  refine pwp_loopJ 4 (fun e s => (∀ j (h : j < 4), ((lsC c)[j]'h).any (badS j) = false) ∧ s = τ ∧ e 3 = .ptr (σ.next + 1) 0) (fun k env s => k ≤ 4 ∧ (∀ j (h : j < 4), j < k → ((lsC c)[j]'h).any (badS j) = false) ∧ s = τ ∧ env 6 = .int .i64 (k:Nat) ∧ env 3 = .ptr (σ.next + 1) 0) (fun k => 4 - k) 0 ?_ ?_ ?_
  · simp only [upd_apply, h3, Nat.reduceEqDiff, if_true, if_false]
    exact ⟨Nat.zero_le _, fun j h hj => absurd hj (Nat.not_lt_zero _), (by first | trivial | rfl | omega), (by first | trivial | rfl | omega), (by first | trivial | rfl | omega)⟩
  · clear h3
    rintro k env s ⟨hk, hp, rfl, h6, h3⟩
    rcases Nat.lt_or_ge k 4 with hlt | hge
    · have hn : (k : Int) < 4 := by omega
      have hx := lsC_at c hlt
      have yes : ((lsC c)[k]'hlt).any (badS k) = true → valW c = 1 := fun h => by rw [valW, hbig0, if_neg (by decide), if_pos (bad_ls_true c hlt h)]
      have no : ((lsC c)[k]'hlt).any (badS k) = false → ∀ j (h : j < 4), j < k + 1 → ((lsC c)[j]'h).any (badS j) = false := fun h j hj hjk => by
        by_cases e : j = k
        · subst e; exact h
        · exact hp j hj (by omega)
      generalize (lsC c)[k]'hlt = l at hx yes no
      simp -dsimp only [h6, h3, hn, exitR_ret, ↓preB, postB, genB, ↓reduceIte, Nat.reduceEqDiff, Int.reduceToNat, Int.reduceLE, Int.reduceLT, Nat.reduceAdd, Nat.reduceLeDiff, intBin, strBin, unD, extractD, lit1, lit2, lit3, keptD, boxR, D.one, D.pub1, D.cells, splice, cutOwn]
      refine pwp_loopJ 6 (fun e s' => l.any (badS k) = false ∧ s' = s ∧ e 6 = .int .i64 (k:Nat) ∧ e 3 = .ptr (σ.next + 1) 0) (fun i e s' => i ≤ l.length ∧ (∀ j (h : j < l.length), j < i → badS k l[j] = false) ∧ s' = s ∧ e 7 = .int .i64 (i:Nat) ∧ e 6 = .int .i64 (k:Nat) ∧ e 3 = .ptr (σ.next + 1) 0) (fun i => l.length - i) 0 ?_ ?_ ?_
      · simp only [upd_apply, h6, h3, Nat.reduceEqDiff, if_true, if_false]
        exact ⟨Nat.zero_le _, fun j h hj => absurd hj (Nat.not_lt_zero _), (by first | trivial | rfl | omega), (by first | trivial | rfl | omega), (by first | trivial | rfl | omega), (by first | trivial | rfl | omega)⟩
      · clear h6 h3
        rintro i e s' ⟨hi, hpi, rfl, h7, h6, h3⟩
        rcases Nat.lt_or_ge i l.length with hil | hig
        · have hni : (i : Int) < l.length := by omega
          have hxi : l[i]? = some l[i] := List.getElem?_eq_getElem hil
          have hl0 : 0 < l.length := by omega
          have yes1 : badS k l[i] = true → valW c = 1 := fun h => yes (List.any_eq_true.2 ⟨_, List.getElem_mem hil, h⟩)
          have no1 : badS k l[i] = false → ∀ j (h : j < l.length), j < i + 1 → badS k l[j] = false := fun h j hj hjk => by
            by_cases e : j = i
            · subst e; exact h
            · exact hpi j hj (by omega)
          generalize l[i] = x at hxi yes1 no1
          rw [badS_R] at yes1 no1
          have wi := fun (hlb : l.length ≤ big) => wrap64_succ (k := i) (by omega)
          have go : l.length ≤ big → badS k x = false → ∃ y, (y ≤ l.length ∧ (∀ (j : Nat) (h : j < l.length), j < y → badS k l[j] = false) ∧ IntKind.i64.wrap ((i : Int) + 1) = ((y : Nat) : Int)) ∧ l.length - y < l.length - i := fun hlb h => ⟨i + 1, ⟨by omega, no1 (by rw [← badS_R]; exact h), wi hlb⟩, by omega⟩
          by_cases x0 : x.size = 0
          · have e0 : x = ⟨#[]⟩ := ba_extL (List.eq_nil_of_length_eq_zero x0)
            have c0 : (x == (⟨#[]⟩ : ByteArray)) = true := by rw [e0]; rfl
            rw [yes1 (by rw [decide_eq_true x0]; rfl)]
            simp -dsimp only [h7, h6, h3, hlt, hg1, hx, hlen, hni, hil, hxi, hl0, Nat.zero_add, encSS, exitR_ret, c0, gate, decide_true, decide_false, Bool.not_true, Bool.not_false, bTT, bTF, bFT, bFF, ↓preB, postB, genB, ↓reduceIte, Nat.reduceEqDiff, Int.reduceToNat, Int.reduceLE, Int.reduceLT, Nat.reduceAdd, Nat.reduceLeDiff, intBin, strBin, unD, extractD, lit1, lit2, lit3, keptD, boxR, D.one, D.pub1, D.cells, splice, cutOwn]
            exact fun _ => done _
          have c0 : (x == (⟨#[]⟩ : ByteArray)) = false := by
            rw [Bool.eq_false_iff]
            intro h
            exact x0 (by rw [ba_eq h]; rfl)
          have hCl := isCliticR_c x
          rw [badS_R, decide_eq_false x0, Bool.false_or] at go
          rw [decide_eq_false x0, Bool.false_or] at yes1
          have x1 : (0 : Int) < x.size := by omega
          have x2 : x.size - 1 < x.size := by omega
          have x3 : 0 < x.size := by omega
          have w1 : x.size ≤ big → IntKind.i64.wrap ((x.size : Int) - 1) = ((x.size - 1 : Nat) : Int) := fun hb => by
            simp only [big] at hb
            rw [wrap64_in (by omega) (by omega)]; omega
          by_cases k2 : 2 ≤ k
          · have c2 : ¬ (k : Int) < 2 := by omega
            have c3 : ((k : Int) == 1) = false := by simp only [beq_eq_false_iff_ne, ne_eq]; omega
            have c4 : (2 : Int) ≤ k := by omega
            rw [decide_eq_false (p := k < 2) (by omega), decide_eq_false (p := k = 1) (by omega), decide_eq_true (p := 1 < k) (by omega)] at yes1 go
            simp only [Bool.false_and, Bool.true_and, Bool.false_or] at yes1 go
            simp -dsimp only [h7, h6, h3, hlt, hg1, hx, hlen, hni, hil, hxi, hl0, Nat.zero_add, encSS, exitR_ret, c0, c2, c3, c4, gate, decide_true, decide_false, Bool.not_true, Bool.not_false, bTT, bTF, bFT, bFF, ↓preB, postB, genB, ↓reduceIte, Nat.reduceEqDiff, Int.reduceToNat, Int.reduceLE, Int.reduceLT, Nat.reduceAdd, Nat.reduceLeDiff, intBin, strBin, unD, extractD, lit1, lit2, lit3, keptD, boxR, D.one, D.pub1, D.cells, splice, cutOwn]
            intro hlb
            refine Fn.use hCl ?_
            cases q : clitB x
            · rw [yes1 (by rw [q]; rfl)]
              simp -dsimp only [h7, h6, h3, hlt, hg1, hx, hlen, hni, hil, hxi, hl0, Nat.zero_add, encSS, exitR_ret, c0, c2, c3, c4, q, gate, decide_true, decide_false, Bool.not_true, Bool.not_false, bTT, bTF, bFT, bFF, ↓preB, postB, genB, ↓reduceIte, Nat.reduceEqDiff, Int.reduceToNat, Int.reduceLE, Int.reduceLT, Nat.reduceAdd, Nat.reduceLeDiff, intBin, strBin, unD, extractD, lit1, lit2, lit3, keptD, boxR, D.one, D.pub1, D.cells, splice, cutOwn]
              exact done _
            · simp -dsimp only [h7, h6, h3, hlt, hg1, hx, hlen, hni, hil, hxi, hl0, Nat.zero_add, encSS, exitR_ret, c0, c2, c3, c4, q, gate, decide_true, decide_false, Bool.not_true, Bool.not_false, bTT, bTF, bFT, bFF, ↓preB, postB, genB, ↓reduceIte, Nat.reduceEqDiff, Int.reduceToNat, Int.reduceLE, Int.reduceLT, Nat.reduceAdd, Nat.reduceLeDiff, intBin, strBin, unD, extractD, lit1, lit2, lit3, keptD, boxR, D.one, D.pub1, D.cells, splice, cutOwn]
              exact go hlb (by rw [q]; rfl)
          have c2 : (k : Int) < 2 := by omega
          have c4 : ¬ (2 : Int) ≤ k := by omega
          rw [decide_eq_true (p := k < 2) (by omega), decide_eq_false (p := 1 < k) (by omega)] at yes1 go
          simp only [Bool.false_and, Bool.true_and, Bool.or_false] at yes1 go
          simp -dsimp only [h7, h6, h3, hlt, hg1, hx, hlen, hni, hil, hxi, hl0, Nat.zero_add, encSS, exitR_ret, c0, c2, x1, x3, gate, decide_true, decide_false, Bool.not_true, Bool.not_false, bTT, bTF, bFT, bFF, ↓preB, postB, genB, ↓reduceIte, Nat.reduceEqDiff, Int.reduceToNat, Int.reduceLE, Int.reduceLT, Nat.reduceAdd, Nat.reduceLeDiff, intBin, strBin, unD, extractD, lit1, lit2, lit3, keptD, boxR, D.one, D.pub1, D.cells, splice, cutOwn]
          intro hlb
          refine Fn.use (isBlankR_c _) ?_
          cases q : isBlankI (byteAt x 0)
          · rw [q, Bool.false_or] at yes1 go
            simp -dsimp only [h7, h6, h3, hlt, hg1, hx, hlen, hni, hil, hxi, hl0, Nat.zero_add, encSS, exitR_ret, c0, c2, q, gate, decide_true, decide_false, Bool.not_true, Bool.not_false, bTT, bTF, bFT, bFF, ↓preB, postB, genB, ↓reduceIte, Nat.reduceEqDiff, Int.reduceToNat, Int.reduceLE, Int.reduceLT, Nat.reduceAdd, Nat.reduceLeDiff, intBin, strBin, unD, extractD, lit1, lit2, lit3, keptD, boxR, D.one, D.pub1, D.cells, splice, cutOwn]
            intro hb
            simp -dsimp only [h7, h6, h3, hlt, hg1, hx, hlen, hni, hil, hxi, hl0, Nat.zero_add, encSS, exitR_ret, c0, c2, q, w1 hb, x2, gate, decide_true, decide_false, Bool.not_true, Bool.not_false, bTT, bTF, bFT, bFF, ↓preB, postB, genB, ↓reduceIte, Nat.reduceEqDiff, Int.reduceToNat, Int.reduceLE, Int.reduceLT, Nat.reduceAdd, Nat.reduceLeDiff, intBin, strBin, unD, extractD, lit1, lit2, lit3, keptD, boxR, D.one, D.pub1, D.cells, splice, cutOwn]
            refine Fn.use (isBlankR_c _) ?_
            cases q2 : isBlankI (byteAt x (x.size - 1))
            · rw [q2, Bool.false_or] at yes1 go
              by_cases k1 : k = 1
              · have c3 : ((k : Int) == 1) = true := by rw [k1]; rfl
                rw [decide_eq_true k1, Bool.true_and] at yes1 go
                have hb46 : (byteAt x (x.size - 1) == 46) = !(byteAt x (x.size - 1) != 46) := by simp [bne]
                rw [hb46, Bool.not_not] at yes1 go
                cases q4 : (byteAt x (x.size - 1) != 46)
                · simp -dsimp only [h7, h6, h3, hlt, hg1, hx, hlen, hni, hil, hxi, hl0, Nat.zero_add, encSS, exitR_ret, c0, c2, c3, c4, q, q2, q4, x2, w1 hb, gate, decide_true, decide_false, Bool.not_true, Bool.not_false, bTT, bTF, bFT, bFF, ↓preB, postB, genB, ↓reduceIte, Nat.reduceEqDiff, Int.reduceToNat, Int.reduceLE, Int.reduceLT, Nat.reduceAdd, Nat.reduceLeDiff, intBin, strBin, unD, extractD, lit1, lit2, lit3, keptD, boxR, D.one, D.pub1, D.cells, splice, cutOwn]
                  exact fun _ => go hlb q4
                · rw [yes1 q4]
                  simp -dsimp only [h7, h6, h3, hlt, hg1, hx, hlen, hni, hil, hxi, hl0, Nat.zero_add, encSS, exitR_ret, c0, c2, c3, c4, q, q2, q4, x2, w1 hb, gate, decide_true, decide_false, Bool.not_true, Bool.not_false, bTT, bTF, bFT, bFF, ↓preB, postB, genB, ↓reduceIte, Nat.reduceEqDiff, Int.reduceToNat, Int.reduceLE, Int.reduceLT, Nat.reduceAdd, Nat.reduceLeDiff, intBin, strBin, unD, extractD, lit1, lit2, lit3, keptD, boxR, D.one, D.pub1, D.cells, splice, cutOwn]
                  exact fun _ => done _
              · have c3 : ((k : Int) == 1) = false := by simp only [beq_eq_false_iff_ne, ne_eq]; omega
                simp -dsimp only [h7, h6, h3, hlt, hg1, hx, hlen, hni, hil, hxi, hl0, Nat.zero_add, encSS, exitR_ret, c0, c2, c3, c4, q, q2, gate, decide_true, decide_false, Bool.not_true, Bool.not_false, bTT, bTF, bFT, bFF, ↓preB, postB, genB, ↓reduceIte, Nat.reduceEqDiff, Int.reduceToNat, Int.reduceLE, Int.reduceLT, Nat.reduceAdd, Nat.reduceLeDiff, intBin, strBin, unD, extractD, lit1, lit2, lit3, keptD, boxR, D.one, D.pub1, D.cells, splice, cutOwn]
                exact go hlb (by rw [decide_eq_false k1]; rfl)
            · rw [yes1 (by rw [q2]; rfl)]
              simp -dsimp only [h7, h6, h3, hlt, hg1, hx, hlen, hni, hil, hxi, hl0, Nat.zero_add, encSS, exitR_ret, c0, c2, q, q2, gate, decide_true, decide_false, Bool.not_true, Bool.not_false, bTT, bTF, bFT, bFF, ↓preB, postB, genB, ↓reduceIte, Nat.reduceEqDiff, Int.reduceToNat, Int.reduceLE, Int.reduceLT, Nat.reduceAdd, Nat.reduceLeDiff, intBin, strBin, unD, extractD, lit1, lit2, lit3, keptD, boxR, D.one, D.pub1, D.cells, splice, cutOwn]
              exact done _
          · rw [yes1 (by rw [q]; rfl)]
            simp -dsimp only [h7, h6, h3, hlt, hg1, hx, hlen, hni, hil, hxi, hl0, Nat.zero_add, encSS, exitR_ret, c0, c2, q, gate, decide_true, decide_false, Bool.not_true, Bool.not_false, bTT, bTF, bFT, bFF, ↓preB, postB, genB, ↓reduceIte, Nat.reduceEqDiff, Int.reduceToNat, Int.reduceLE, Int.reduceLT, Nat.reduceAdd, Nat.reduceLeDiff, intBin, strBin, unD, extractD, lit1, lit2, lit3, keptD, boxR, D.one, D.pub1, D.cells, splice, cutOwn]
            exact done _
        · have hni : ¬ (i : Int) < l.length := by omega
          simp -dsimp only [h7, h6, h3, hlt, hg1, hx, hlen, hni, Nat.zero_add, encSS, exitR_exit, ↓preB, postB, genB, ↓reduceIte, Nat.reduceEqDiff, Int.reduceToNat, Int.reduceLE, Int.reduceLT, Nat.reduceAdd, Nat.reduceLeDiff, intBin, strBin, unD, extractD, lit1, lit2, lit3, keptD, boxR, D.one, D.pub1, D.cells, splice, cutOwn]
          exact fun _ => List.any_eq_false.2 fun x hx => by
            obtain ⟨j, hj, rfl⟩ := List.getElem_of_mem hx
            rw [hpi j hj (by omega)]; decide
      · clear h6 h3
        rintro e s' ⟨hb, rfl, h6, h3⟩
        simp -dsimp only [h6, h3, ↓preB, postB, genB, ↓reduceIte, Nat.reduceEqDiff, Int.reduceToNat, Int.reduceLE, Int.reduceLT, Nat.reduceAdd, Nat.reduceLeDiff, intBin, strBin, unD, extractD, lit1, lit2, lit3, keptD, boxR, D.one, D.pub1, D.cells, splice, cutOwn]
        exact ⟨k + 1, ⟨by omega, no hb, wrap64_succ (by simp only [big]; omega)⟩, by omega⟩
    · have hn : ¬ (k : Int) < 4 := by omega
      simp -dsimp only [h6, h3, hn, exitR_exit, ↓preB, postB, genB, ↓reduceIte, Nat.reduceEqDiff, Int.reduceToNat, Int.reduceLE, Int.reduceLT, Nat.reduceAdd, Nat.reduceLeDiff, intBin, strBin, unD, extractD, lit1, lit2, lit3, keptD, boxR, D.one, D.pub1, D.cells, splice, cutOwn]
      exact fun j hj => hp j hj (by omega)
  clear h3
  rintro env s ⟨hbad, rfl, h3⟩
  have hbad0 := bad_ls_false c hbad
  have hdone : (∀ j (h : j < 4), dupB ((lsC c)[j]'h) = false) → valW c = 0 := fun h => by rw [valW, hbig0, hbad0, any_ls_false c h]; rfl
  have hdup : ∀ {k : Nat} (h : k < 4), dupB ((lsC c)[k]'h) = true → valW c = 5 := fun h hd => by rw [valW, hbig0, hbad0, any_ls_true c h hd]; rfl
  simp -dsimp only [h3, ↓preB, postB, genB, ↓reduceIte, Nat.reduceEqDiff, Int.reduceToNat, Int.reduceLE, Int.reduceLT, Nat.reduceAdd, Nat.reduceLeDiff, intBin, strBin, unD, extractD, lit1, lit2, lit3, keptD, boxR, D.one, D.pub1, D.cells, splice, cutOwn]
  refine pwp_loopJ 8 (fun e τ => (∀ j (h : j < 4), dupB ((lsC c)[j]'h) = false) ∧ τ = s) (fun k env τ => k ≤ 4 ∧ (∀ j (h : j < 4), j < k → dupB ((lsC c)[j]'h) = false) ∧ τ = s ∧ env 9 = .int .i64 (k:Nat) ∧ env 3 = .ptr (σ.next + 1) 0) (fun k => 4 - k) 0 ?_ ?_ ?_
  · simp only [upd_apply, h3, Nat.reduceEqDiff, if_true, if_false]
    exact ⟨Nat.zero_le _, fun j h hj => absurd hj (Nat.not_lt_zero _), (by first | trivial | rfl | omega), (by first | trivial | rfl | omega), (by first | trivial | rfl | omega)⟩
  · clear h3
    rintro k env τ ⟨hk, hp, rfl, h9, h3⟩
    rcases Nat.lt_or_ge k 4 with hlt | hge
    · have hn : (k : Int) < 4 := by omega
      have hx := lsC_at c hlt
      have yes := hdup hlt
      have no : dupB ((lsC c)[k]'hlt) = false → ∀ j (h : j < 4), j < k + 1 → dupB ((lsC c)[j]'h) = false := fun h j hj hjk => by
        by_cases e : j = k
        · subst e; exact h
        · exact hp j hj (by omega)
      generalize (lsC c)[k]'hlt = l at hx yes no
      simp -dsimp only [h9, h3, hn, hlt, hg1, hx, hlen, Nat.zero_add, exitR_ret, ↓preB, postB, genB, ↓reduceIte, Nat.reduceEqDiff, Int.reduceToNat, Int.reduceLE, Int.reduceLT, Nat.reduceAdd, Nat.reduceLeDiff, intBin, strBin, unD, extractD, lit1, lit2, lit3, keptD, boxR, D.one, D.pub1, D.cells, splice, cutOwn]
      refine Fn.use (twice_c l) ?_
      cases q : dupB l
      · simp -dsimp only [h9, h3, q, exitR_ret, gate, decide_true, decide_false, Bool.not_true, Bool.not_false, bTT, bTF, bFT, bFF, ↓preB, postB, genB, ↓reduceIte, Nat.reduceEqDiff, Int.reduceToNat, Int.reduceLE, Int.reduceLT, Nat.reduceAdd, Nat.reduceLeDiff, intBin, strBin, unD, extractD, lit1, lit2, lit3, keptD, boxR, D.one, D.pub1, D.cells, splice, cutOwn]
        exact ⟨k + 1, ⟨by omega, no q, wrap64_succ (by simp only [big]; omega)⟩, by omega⟩
      · rw [yes q]
        simp -dsimp only [h9, h3, q, exitR_ret, gate, decide_true, decide_false, Bool.not_true, Bool.not_false, bTT, bTF, bFT, bFF, ↓preB, postB, genB, ↓reduceIte, Nat.reduceEqDiff, Int.reduceToNat, Int.reduceLE, Int.reduceLT, Nat.reduceAdd, Nat.reduceLeDiff, intBin, strBin, unD, extractD, lit1, lit2, lit3, keptD, boxR, D.one, D.pub1, D.cells, splice, cutOwn]
        exact done _
    · have hn : ¬ (k : Int) < 4 := by omega
      simp -dsimp only [h9, h3, hn, exitR_exit, ↓preB, postB, genB, ↓reduceIte, Nat.reduceEqDiff, Int.reduceToNat, Int.reduceLE, Int.reduceLT, Nat.reduceAdd, Nat.reduceLeDiff, intBin, strBin, unD, extractD, lit1, lit2, lit3, keptD, boxR, D.one, D.pub1, D.cells, splice, cutOwn]
      exact fun j hj => hp j hj (by omega)
  · rintro env τ ⟨hd, rfl⟩
    rw [hdone hd]
    simp -dsimp only [↓preB, postB, genB, ↓reduceIte, Nat.reduceEqDiff, Int.reduceToNat, Int.reduceLE, Int.reduceLT, Nat.reduceAdd, Nat.reduceLeDiff, intBin, strBin, unD, extractD, lit1, lit2, lit3, keptD, boxR, D.one, D.pub1, D.cells, splice, cutOwn]
    exact done _
end Go.Proofs.YtapkbkniooleaaaGreat.Vs
