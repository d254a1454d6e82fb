/- numbers of Ythchlpikcpidaaa -/
import Derived.Test.YthchlpikcpidaaaSs1
import Derived.Test.YthchlpikcpidaaaGuD1
namespace Go.Proofs.Ythchlpikcpidaaa.Vs
set_option linter.unusedVariables false
set_option linter.unusedSimpArgs false
set_option maxRecDepth 100000
theorem Heap.set_selfR {σ : Heap} {q : Nat} {o : AO} (h : σ.get q = some o) : σ.set q o = σ := by
  cases σ with
  | mk n g =>
    simp only [Heap.set, Heap.mk.injEq, true_and]
    funext i
    split
    · rename_i hi; subst hi; exact h.symm
    · rfl
theorem wadd {a b : Nat} (h : a + b ≤ big) : IntKind.i64.wrap ((a : Int) + (b : Int)) = ((a + b : Nat) : Int) := by
  simp only [big] at h
  rw [wrap64_in (by omega) (by omega)]; omega
/-- A row of texts, with what lies behind it. -/
def cellsT (l : List ByteArray) (js : List D) : List D := l.map D.str ++ js
theorem cellsT_len (l : List ByteArray) (js : List D) : (cellsT l js).length = l.length + js.length := by simp [cellsT]
theorem cellsT_get {l : List ByteArray} {j : Nat} (h : j < l.length) (js : List D) : (cellsT l js)[j]? = some (.str l[j]) := by
  unfold cellsT
  rw [List.getElem?_append_left (by simpa using h), List.getElem?_map, List.getElem?_eq_getElem h]; rfl
theorem cellsT_set {l : List ByteArray} {j : Nat} (h : j < l.length) (js : List D) (v : ByteArray) : (cellsT l js).take j ++ [D.str v] ++ (cellsT l js).drop (j + 1) = cellsT (l.set j v) js := by
  rw [splice_one (by rw [cellsT_len]; omega)]
  unfold cellsT
  rw [List.set_append_left _ _ (by simpa using h), List.map_set]
theorem pt_swap {l : List ByteArray} {a b k i : Nat} (h1 : a + k ≤ b) (h2 : b + k ≤ l.length) (hi : i < k) (js : List D) :
    (cellsT (swapR l a b i) js)[a + i]? = some (.str (l[a + i]'(by omega))) ∧ (cellsT (swapR l a b i) js)[b + i]? = some (.str (l[b + i]'(by omega))) := by
  have hl := swapR_len (l := l) (a := a) (b := b) (k := i) (by omega) (by omega)
  obtain ⟨e1, e2⟩ := swapR_at (l := l) (a := a) (b := b) (i := i) (by omega) (by omega)
  rw [cellsT_get (by omega), cellsT_get (by omega)]
  rw [List.getElem?_eq_getElem (by omega), List.getElem?_eq_getElem (by omega)] at e1 e2
  rw [Option.some.inj e1, Option.some.inj e2]
  exact ⟨rfl, rfl⟩
theorem swapRange_p (l : List ByteArray) (js : List D) (r : Nat) (c : Option Nat) (a b k : Nat) (d : D) {σ : Heap} (hr : σ.get r = some (.cells 9 (cellsT l js))) (h1 : a + k ≤ b) (h2 : b + k ≤ l.length) (hl : l.length ≤ 100000) :
    PCall Zs 92 [.row r 0 l.length c 1, .int .i64 a, .int .i64 b, .int .i64 k, d] σ (fun d τ => d = .tup [] ∧ τ = σ.set r (.cells 9 (cellsT (swapR l a b k) js))) := by
  refine pcall_of (Z := Zs) ok92 fun hcl hbl => ?_
  simp -dsimp only [L92, ↓preB, postB, genB, ↓reduceIte, Nat.reduceEqDiff, Int.reduceToNat, Int.reduceLE, Int.reduceLT, Nat.reduceAdd, Nat.reduceLeDiff, intBin, strBin, unD, extractD, lit1, lit2, lit3, keptD, boxR, D.one, D.pub1, D.cells, splice, cutOwn]
  refine pwp_loopG (fun (i : Nat) env s => (i ≤ k ∧ s = σ.set r (.cells 9 (cellsT (swapR l a b i) js))) ∧ env 10 = .int .i64 (i:Nat) ∧ env 0 = .row r 0 l.length c 1 ∧ env 1 = .int .i64 a ∧ env 2 = .int .i64 b ∧ env 3 = .int .i64 k) (fun i => k - i) 0 ?_ ?_
  · simp only [upd_apply, envOf_apply, Nat.reduceEqDiff, if_true, if_false]
    exact ⟨⟨Nat.zero_le _, by rw [swapR_zero _ _ _ (by omega) (by omega), Heap.set_selfR hr]⟩, by simp [envOf]⟩
  · rintro i env s ⟨⟨hi, rfl⟩, h10, h0, ha, hb, hk⟩
    by_cases c1 : i < k
    · have p1 : ((a + i : Nat) : Int) < (l.length : Int) := by omega
      have p2 : ((b + i : Nat) : Int) < (l.length : Int) := by omega
      have w1 := wadd (a := a) (b := i) (by simp only [big]; omega)
      have w2 := wadd (a := b) (b := i) (by simp only [big]; omega)
      obtain ⟨g1, g2⟩ := pt_swap h1 h2 c1 js
      have hsl := swapR_len (l := l) (a := a) (b := b) (k := i) (by omega) (by omega)
      have hcl1 : a + i + 1 ≤ (cellsT (swapR l a b i) js).length := by rw [cellsT_len]; omega
      simp -dsimp only [h10, h0, ha, hb, hk, c1, ↓preB, postB, genB, ↓reduceIte, Nat.reduceEqDiff, Int.reduceToNat, Int.reduceLE, Int.reduceLT, Nat.reduceAdd, Nat.reduceLeDiff, intBin, strBin, unD, extractD, lit1, lit2, lit3, keptD, boxR, D.one, D.pub1, D.cells, splice, cutOwn]
      refine draw_p _ rfl rfl rfl rfl ?_
      simp only [List.filterMap_cons, List.filterMap_nil, List.getElem?_cons_succ, List.getElem?_cons_zero, pOps, keepKind, hfKind, Bool.or_false, Bool.or_true, Bool.false_eq_true, if_true, if_false]
      have s1 := cellsT_set (l := swapR l a b i) (j := a + i) (by omega) js (l[b + i]'(by omega))
      have s2 := cellsT_set (l := (swapR l a b i).set (a + i) (l[b + i]'(by omega))) (j := b + i) (by rw [List.length_set]; omega) js (l[a + i]'(by omega))
      simp -dsimp only [h10, h0, ha, hb, hk, w1, w2, p1, p2, g1, g2, hcl1, s1, s2, ↓preB, postB, genB, ↓reduceIte, Nat.reduceEqDiff, Int.reduceToNat, Int.reduceLE, Int.reduceLT, Nat.reduceAdd, Nat.reduceLeDiff, intBin, strBin, unD, extractD, lit1, lit2, lit3, keptD, boxR, D.one, D.pub1, D.cells, splice, cutOwn]
      refine ⟨by rw [cellsT_len, List.length_set]; omega, i + 1, ⟨⟨by omega, ?_⟩, wrap64_succ (by simp only [big]; omega)⟩, by omega⟩
      rw [swapR_step (by omega) (by omega)]
    · have hik : i = k := by omega
      subst hik
      simp -dsimp only [h10, h0, ha, hb, hk, Nat.lt_irrefl, ↓preB, postB, genB, ↓reduceIte, Nat.reduceEqDiff, Int.reduceToNat, Int.reduceLE, Int.reduceLT, Nat.reduceAdd, Nat.reduceLeDiff, intBin, strBin, unD, extractD, lit1, lit2, lit3, keptD, boxR, D.one, D.pub1, D.cells, splice, cutOwn]
      exact Ret.now (Nat.le_refl _) ⟨rfl, rfl⟩
theorem rotate_p (P U V S : List ByteArray) (hu : 0 < U.length) (hv : 0 < V.length) (js : List D) (r : Nat) (c : Option Nat) (d : D) {n : Nat} (hn : n = (P ++ (U ++ (V ++ S))).length) {σ : Heap} (hr : σ.get r = some (.cells 9 (cellsT (P ++ (U ++ (V ++ S))) js))) (hl : n ≤ 100000) :
    PCall Zs 83 [.row r 0 n c 1, .int .i64 P.length, .int .i64 (P.length + U.length : Nat), .int .i64 (P.length + U.length + V.length : Nat), d] σ (fun d τ => d = .tup [] ∧ τ = σ.set r (.cells 9 (cellsT (P ++ (V ++ (U ++ S))) js))) := by
  have hlen : n = P.length + U.length + V.length + S.length := by rw [hn]; simp only [List.length_append]; omega
  have hfin := rotF_is (U.length + V.length) P U V S (P.length + U.length) rfl hu hv (Nat.le_refl _)
  rw [← hfin]
  have hl0 : (P ++ (U ++ (V ++ S))).length = n := hn.symm
  generalize P ++ (U ++ (V ++ S)) = L at *
  generalize hm : P.length + U.length = m at *
  refine pcall_of (Z := Zs) ok83 fun hcl hbl => ?_
  simp -dsimp only [L83, ↓preB, postB, genB, ↓reduceIte, Nat.reduceEqDiff, Int.reduceToNat, Int.reduceLE, Int.reduceLT, Nat.reduceAdd, Nat.reduceLeDiff, intBin, strBin, unD, extractD, lit1, lit2, lit3, keptD, boxR, D.one, D.pub1, D.cells, splice, cutOwn]
  have w1 := wsub (a := m) (b := P.length) (by omega) (by simp only [big]; omega)
  have w2 := wsub (a := m + V.length) (b := m) (by omega) (by simp only [big]; omega)
  rw [show m - P.length = U.length by omega] at w1
  rw [show m + V.length - m = V.length by omega] at w2
  have w2' : IntKind.i64.wrap ((m : Int) + (V.length : Int) - (m : Int)) = (V.length : Int) := by rw [← Int.natCast_add]; exact w2
  refine pwp_loopG (fun (x : Nat × Nat × Nat × List ByteArray) env s => (x.2.1 + x.2.2.1 ≤ x.1 ∧ 0 < x.2.1 ∧ 0 < x.2.2.1 ∧ x.2.1 ≤ m ∧ m + x.2.2.1 ≤ n ∧ x.2.2.2.length = n ∧ rotF x.1 x.2.2.2 m x.2.1 x.2.2.1 = rotF (U.length + V.length) L m U.length V.length ∧ s = σ.set r (.cells 9 (cellsT x.2.2.2 js))) ∧ env 10 = .int .i64 (x.2.1 : Nat) ∧ env 11 = .int .i64 (x.2.2.1 : Nat) ∧ env 0 = .row r 0 n c 1 ∧ env 2 = .int .i64 m ∧ env 4 = d) (fun x => x.1) (U.length + V.length, U.length, V.length, L) ?_ ?_
  · simp only [upd_apply, envOf_apply, Nat.reduceEqDiff, if_true, if_false]
    exact ⟨⟨Nat.le_refl _, hu, hv, by omega, by omega, hl0, trivial, by rw [Heap.set_selfR hr]⟩, by simp [envOf, w1, w2, w2']⟩
  · rintro ⟨f, i, j, M⟩ env s ⟨⟨q1, q2, q3, q4, q5, q6, q7, rfl⟩, h10, h11, h0, h2, h4⟩
    simp only at q1 q2 q3 q4 q5 q6 q7 h10 h11 h0 h2 h4 ⊢
    have w3 := wsub (a := m) (b := i) (by omega) (by simp only [big]; omega)
    obtain ⟨f, rfl⟩ : ∃ g, f = g + 1 := ⟨f - 1, by omega⟩
    rw [rotF] at q7
    by_cases c1 : i = j
    · subst c1
      rw [if_pos rfl] at q7
      have e1 : ((i : Int) != (i : Int)) = false := by simp
      simp -dsimp only [h10, h11, h0, h2, h4, e1, w3, ↓preB, postB, genB, ↓reduceIte, Nat.reduceEqDiff, Int.reduceToNat, Int.reduceLE, Int.reduceLT, Nat.reduceAdd, Nat.reduceLeDiff, intBin, strBin, unD, extractD, lit1, lit2, lit3, keptD, boxR, D.one, D.pub1, D.cells, splice, cutOwn]
      have hs := swapRange_p M js r c (m - i) m i d (σ := σ.set r (.cells 9 (cellsT M js))) (Heap.set_same _ _ _) (by omega) (by omega) (by omega)
      rw [q6] at hs
      refine PCall.use hs ?_
      rintro _ _ ⟨rfl, rfl⟩
      simp -dsimp only [↓preB, postB, genB, ↓reduceIte, Nat.reduceEqDiff, Int.reduceToNat, Int.reduceLE, Int.reduceLT, Nat.reduceAdd, Nat.reduceLeDiff, intBin, strBin, unD, extractD, lit1, lit2, lit3, keptD, boxR, D.one, D.pub1, D.cells, splice, cutOwn]
      exact Ret.now (Nat.le_refl _) ⟨rfl, by rw [q7]⟩
    · rw [if_neg c1] at q7
      have e1 : ((i : Int) != (j : Int)) = true := by rw [bne_iff_ne]; omega
      by_cases c2 : j < i
      · rw [if_pos c2] at q7
        have w4 := wsub (a := i) (b := j) (by omega) (by simp only [big]; omega)
        have hs := swapRange_p M js r c (m - i) m j d (σ := σ.set r (.cells 9 (cellsT M js))) (Heap.set_same _ _ _) (by omega) (by omega) (by omega)
        rw [q6] at hs
        simp -dsimp only [h10, h11, h0, h2, h4, e1, w3, c2, ↓preB, postB, genB, ↓reduceIte, Nat.reduceEqDiff, Int.reduceToNat, Int.reduceLE, Int.reduceLT, Nat.reduceAdd, Nat.reduceLeDiff, intBin, strBin, unD, extractD, lit1, lit2, lit3, keptD, boxR, D.one, D.pub1, D.cells, splice, cutOwn]
        refine PCall.use hs ?_
        rintro _ _ ⟨rfl, rfl⟩
        simp -dsimp only [h10, h11, h0, h2, h4, w4, ↓preB, postB, genB, ↓reduceIte, Nat.reduceEqDiff, Int.reduceToNat, Int.reduceLE, Int.reduceLT, Nat.reduceAdd, Nat.reduceLeDiff, intBin, strBin, unD, extractD, lit1, lit2, lit3, keptD, boxR, D.one, D.pub1, D.cells, splice, cutOwn]
        exact ⟨(f, i - j, j, swapR M (m - i) m j), ⟨⟨by simp only []; omega, by simp only []; omega, q3, by simp only []; omega, q5, by rw [swapR_len (by omega) (by omega)]; exact q6, q7, rfl⟩, by simp⟩, by simp⟩
      · rw [if_neg c2] at q7
        have c3 : ¬ ((j : Int) < (i : Int)) := by omega
        have w4 := wsub (a := j) (b := i) (by omega) (by simp only [big]; omega)
        have w5 := wadd (a := m) (b := j) (by simp only [big]; omega)
        have w6 := wsub (a := m + j) (b := i) (by omega) (by simp only [big]; omega)
        have hs := swapRange_p M js r c (m - i) (m + j - i) i d (σ := σ.set r (.cells 9 (cellsT M js))) (Heap.set_same _ _ _) (by omega) (by omega) (by omega)
        rw [q6] at hs
        simp -dsimp only [h10, h11, h0, h2, h4, e1, w3, w5, w6, c3, c2, ↓preB, postB, genB, ↓reduceIte, Nat.reduceEqDiff, Int.reduceToNat, Int.reduceLE, Int.reduceLT, Nat.reduceAdd, Nat.reduceLeDiff, intBin, strBin, unD, extractD, lit1, lit2, lit3, keptD, boxR, D.one, D.pub1, D.cells, splice, cutOwn]
        refine PCall.use hs ?_
        rintro _ _ ⟨rfl, rfl⟩
        simp -dsimp only [h10, h11, h0, h2, h4, w4, ↓preB, postB, genB, ↓reduceIte, Nat.reduceEqDiff, Int.reduceToNat, Int.reduceLE, Int.reduceLT, Nat.reduceAdd, Nat.reduceLeDiff, intBin, strBin, unD, extractD, lit1, lit2, lit3, keptD, boxR, D.one, D.pub1, D.cells, splice, cutOwn]
        exact ⟨(f, i, j - i, swapR M (m - i) (m + j - i) i), ⟨⟨by simp only []; omega, q2, by simp only []; omega, q4, by simp only []; omega, by rw [swapR_len (by omega) (by omega)]; exact q6, q7, rfl⟩, by simp⟩, by simp⟩
end Go.Proofs.Ythchlpikcpidaaa.Vs
