/- numbers of Ytapkbkniooleaaa -/
import Derived.Test.YtapkbkniooleaaaTkH1
import Derived.Test.YtapkbkniooleaaaTkE
namespace Go.Proofs.Ytapkbkniooleaaa.Vs
set_option linter.unusedVariables false
set_option linter.unusedSimpArgs false
set_option maxRecDepth 100000
def unitB (s : ByteArray) : Bool := !isBlankI (byteAt s 0) && !isBlankI (byteAt s (s.size - 1))
def clitB (s : ByteArray) : Bool := (List.range s.size).all fun i => isSmallI (byteAt s i) || (byteAt s i == 39 || byteAt s i == 45)
def badS (i : Nat) (s : ByteArray) : Bool := decide (s.size = 0) || (decide (i < 2) && !unitB s) || (decide (i = 1) && !(byteAt s (s.size - 1) == 46)) || (decide (1 < i) && !clitB s)
def bigL (l : Wd) : Bool := decide (300 < l.length) || l.any fun s => decide (400 < s.size)
def lsC (c : Cut) : List Wd := [c.words, c.short, c.front, c.back]
theorem cellsC_ls (c : Cut) : cellsC c = (lsC c).map encSS := rfl
theorem encLen_c (s : ByteArray) : Fn Zs 22 [.str s] (.bool (decide (400 < s.size))) := by
  refine fn_of (Z := Zs) ok22 fun σ hcl hbl => ?_
  simp -dsimp only [L22, ↓preB, postB, genB, ↓reduceIte, Nat.reduceEqDiff, Int.reduceToNat, Int.reduceLE, Int.reduceLT, Nat.reduceAdd, Nat.reduceLeDiff, intBin, strBin, unD, extractD, lit1, lit2, lit3, keptD, boxR, D.one, D.pub1, D.cells, splice, cutOwn]
  intros
  refine Ret.is ?_
  congr 1
  exact decide_eq_decide.2 (by omega)
theorem bs56 (a b c d : Wd) (nx : Nat) : buildSliceR Zs 0 56 4 [(0, encSS a), (1, encSS b), (2, encSS c), (3, encSS d)] nx = some (.sl .full 4 [encSS a, encSS b, encSS c, encSS d], .keep) := by rfl
theorem lists_c (c : Cut) : Fn Zs 20 [encC c] (.sl .full 4 (cellsC c)) := by
  refine fn_of (Z := Zs) ok20 fun σ hcl hbl => ?_
  simp -dsimp only [L20, encC, cellsC, ↓preB, postB, genB, ↓reduceIte, Nat.reduceEqDiff, Int.reduceToNat, Int.reduceLE, Int.reduceLT, Nat.reduceAdd, Nat.reduceLeDiff, intBin, strBin, unD, extractD, lit1, lit2, lit3, keptD, boxR, D.one, D.pub1, D.cells, splice, cutOwn]
  have hs : ∀ (a b d : Nat), True := fun _ _ _ => trivial
  simp -dsimp only [List.getElem?_cons_zero, List.getElem?_cons_succ, bs56, ↓preB, postB, genB, ↓reduceIte, Nat.reduceEqDiff, Int.reduceToNat, Int.reduceLE, Int.reduceLT, Nat.reduceAdd, Nat.reduceLeDiff, intBin, strBin, unD, extractD, lit1, lit2, lit3, keptD, boxR, D.one, D.pub1, D.cells, splice, cutOwn]
  exact Ret.isH (HLe.self_new _ hcl) hcl rfl (.sl _ _ _ (fun r z he => by cases he) (bel_C c))
theorem isUnit_c (s : ByteArray) (h : 1 ≤ s.size) : Fn Zs 23 [.str s] (.bool (unitB s)) := by
  refine fn_of (Z := Zs) ok23 fun σ hcl hbl => ?_
  simp -dsimp only [L23, ↓preB, postB, genB, ↓reduceIte, Nat.reduceEqDiff, Int.reduceToNat, Int.reduceLE, Int.reduceLT, Nat.reduceAdd, Nat.reduceLeDiff, intBin, strBin, unD, extractD, lit1, lit2, lit3, keptD, boxR, D.one, D.pub1, D.cells, splice, cutOwn]
  have h1 : (0 : Int) < s.size := by omega
  simp -dsimp only [h1, ↓preB, postB, genB, ↓reduceIte, Nat.reduceEqDiff, Int.reduceToNat, Int.reduceLE, Int.reduceLT, Nat.reduceAdd, Nat.reduceLeDiff, intBin, strBin, unD, extractD, lit1, lit2, lit3, keptD, boxR, D.one, D.pub1, D.cells, splice, cutOwn]
  refine Fn.use (isBlank_c _) ?_
  unfold unitB
  cases e1 : isBlankI (byteAt s 0)
  · simp -dsimp only [e1, gate, Bool.not_false, bTT, ↓preB, postB, genB, ↓reduceIte, Nat.reduceEqDiff, Int.reduceToNat, Int.reduceLE, Int.reduceLT, Nat.reduceAdd, Nat.reduceLeDiff, intBin, strBin, unD, extractD, lit1, lit2, lit3, keptD, boxR, D.one, D.pub1, D.cells, splice, cutOwn]
    intro hb
    have w1 : IntKind.i64.wrap ((s.size : Int) - 1) = ((s.size - 1 : Nat) : Int) := by
      simp only [big] at hb
      rw [wrap64_in (by omega) (by omega)]; omega
    have w2 : s.size - 1 < s.size := by omega
    simp -dsimp only [e1, w1, w2, gate, Bool.not_false, bTT, ↓preB, postB, genB, ↓reduceIte, Nat.reduceEqDiff, Int.reduceToNat, Int.reduceLE, Int.reduceLT, Nat.reduceAdd, Nat.reduceLeDiff, intBin, strBin, unD, extractD, lit1, lit2, lit3, keptD, boxR, D.one, D.pub1, D.cells, splice, cutOwn]
    refine Fn.use (isBlank_c _) ?_
    simp -dsimp only [e1, w1, w2, gate, Bool.not_false, bTT, ↓preB, postB, genB, ↓reduceIte, Nat.reduceEqDiff, Int.reduceToNat, Int.reduceLE, Int.reduceLT, Nat.reduceAdd, Nat.reduceLeDiff, intBin, strBin, unD, extractD, lit1, lit2, lit3, keptD, boxR, D.one, D.pub1, D.cells, splice, cutOwn]
    exact Ret.is rfl
  · simp -dsimp only [e1, gate, Bool.not_true, bFT, ↓preB, postB, genB, ↓reduceIte, Nat.reduceEqDiff, Int.reduceToNat, Int.reduceLE, Int.reduceLT, Nat.reduceAdd, Nat.reduceLeDiff, intBin, strBin, unD, extractD, lit1, lit2, lit3, keptD, boxR, D.one, D.pub1, D.cells, splice, cutOwn]
    exact Ret.is (by simp)
theorem isClitic_c (s : ByteArray) : Fn Zs 24 [.str s] (.bool (clitB s)) := by
  refine fn_of (Z := Zs) ok24 fun σ hcl hbl => ?_
  simp -dsimp only [L24, ↓preB, postB, genB, ↓reduceIte, Nat.reduceEqDiff, Int.reduceToNat, Int.reduceLE, Int.reduceLT, Nat.reduceAdd, Nat.reduceLeDiff, intBin, strBin, unD, extractD, lit1, lit2, lit3, keptD, boxR, D.one, D.pub1, D.cells, splice, cutOwn]
  intro hbig
  refine pwp_loopG (fun k env τ => k ≤ s.size ∧ (∀ j, j < k → (isSmallI (byteAt s j) || (byteAt s j == 39 || byteAt s j == 45)) = true) ∧ τ = σ ∧ env 6 = .int .i64 (k:Nat) ∧ env 5 = .int .i64 s.size ∧ env 0 = .str s) (fun k => s.size - k) 0 ?_ ?_
  · simp only [upd_apply, envOf_apply, Nat.reduceEqDiff, if_true, if_false]
    exact ⟨Nat.zero_le _, fun j hj => absurd hj (Nat.not_lt_zero _), trivial, rfl, trivial, rfl⟩
  · rintro k env τ ⟨hk, hp, rfl, h6, h5, h0⟩
    rcases Nat.lt_or_ge k s.size with hlt | hge
    · have hn : (k : Int) < s.size := by omega
      simp -dsimp only [h6, h5, h0, hn, hlt, ↓preB, postB, genB, ↓reduceIte, Nat.reduceEqDiff, Int.reduceToNat, Int.reduceLE, Int.reduceLT, Nat.reduceAdd, Nat.reduceLeDiff, intBin, strBin, unD, extractD, lit1, lit2, lit3, keptD, boxR, D.one, D.pub1, D.cells, splice, cutOwn]
      refine Fn.use (isSmall_c _) ?_
      have go : (isSmallI (byteAt s k) || (byteAt s k == 39 || byteAt s k == 45)) = true → ∃ y, (y ≤ s.size ∧ (∀ j, j < y → (isSmallI (byteAt s j) || (byteAt s j == 39 || byteAt s j == 45)) = true) ∧ IntKind.i64.wrap ((k : Int) + 1) = ((y : Nat) : Int)) ∧ s.size - y < s.size - k := fun h => ⟨k + 1, ⟨by omega, fun j hj => by
        by_cases e : j = k
        · subst e; exact h
        · exact hp j (by omega), wrap64_succ (by omega)⟩, by omega⟩
      have no : (isSmallI (byteAt s k) || (byteAt s k == 39 || byteAt s k == 45)) = false → clitB s = false := fun h => List.all_eq_false.2 ⟨k, List.mem_range.2 hlt, by rw [h]; simp⟩
      cases e1 : isSmallI (byteAt s k)
      · by_cases e2 : byteAt s k = 39
        · have k1 : (byteAt s k != 39) = false := by rw [e2]; rfl
          simp -dsimp only [h6, h5, h0, hn, hlt, e1, k1, gate, Bool.not_false, Bool.not_true, bTT, bFT, ↓preB, postB, genB, ↓reduceIte, Nat.reduceEqDiff, Int.reduceToNat, Int.reduceLE, Int.reduceLT, Nat.reduceAdd, Nat.reduceLeDiff, intBin, strBin, unD, extractD, lit1, lit2, lit3, keptD, boxR, D.one, D.pub1, D.cells, splice, cutOwn]
          exact go (by rw [e2]; simp)
        · have k1 : (byteAt s k != 39) = true := by simpa using e2
          by_cases e3 : byteAt s k = 45
          · have k2 : (byteAt s k != 45) = false := by rw [e3]; rfl
            simp -dsimp only [h6, h5, h0, hn, hlt, e1, k1, k2, gate, Bool.not_false, Bool.not_true, bTT, bFT, ↓preB, postB, genB, ↓reduceIte, Nat.reduceEqDiff, Int.reduceToNat, Int.reduceLE, Int.reduceLT, Nat.reduceAdd, Nat.reduceLeDiff, intBin, strBin, unD, extractD, lit1, lit2, lit3, keptD, boxR, D.one, D.pub1, D.cells, splice, cutOwn]
            exact go (by rw [e3]; simp)
          · have k2 : (byteAt s k != 45) = true := by simpa using e3
            simp -dsimp only [h6, h5, h0, hn, hlt, e1, k1, k2, gate, Bool.not_false, Bool.not_true, bTT, bFT, ↓preB, postB, genB, ↓reduceIte, Nat.reduceEqDiff, Int.reduceToNat, Int.reduceLE, Int.reduceLT, Nat.reduceAdd, Nat.reduceLeDiff, intBin, strBin, unD, extractD, lit1, lit2, lit3, keptD, boxR, D.one, D.pub1, D.cells, splice, cutOwn]
            exact Ret.is (by rw [no (by rw [e1]; simp [e2, e3])])
      · simp -dsimp only [h6, h5, h0, hn, hlt, e1, gate, Bool.not_false, Bool.not_true, bTT, bFT, ↓preB, postB, genB, ↓reduceIte, Nat.reduceEqDiff, Int.reduceToNat, Int.reduceLE, Int.reduceLT, Nat.reduceAdd, Nat.reduceLeDiff, intBin, strBin, unD, extractD, lit1, lit2, lit3, keptD, boxR, D.one, D.pub1, D.cells, splice, cutOwn]
        exact go (by rw [e1]; rfl)
    · have hn : ¬ (k : Int) < s.size := by omega
      simp -dsimp only [h6, h5, h0, hn, ↓preB, postB, genB, ↓reduceIte, Nat.reduceEqDiff, Int.reduceToNat, Int.reduceLE, Int.reduceLT, Nat.reduceAdd, Nat.reduceLeDiff, intBin, strBin, unD, extractD, lit1, lit2, lit3, keptD, boxR, D.one, D.pub1, D.cells, splice, cutOwn]
      refine Ret.is ?_
      congr 1
      symm
      simp only [clitB, List.all_eq_true, List.mem_range]
      exact fun j hj => hp j (by omega)
/-- A text stands in a list twice. -/
def dupB : Wd → Bool
  | [] => false
  | x :: l => l.any (fun y => y == x) || dupB l
theorem dupB_iff : ∀ (l : Wd), dupB l = true ↔ ¬ l.Nodup
  | [] => by simp [dupB]
  | x :: l => by
    have ih := dupB_iff l
    simp only [dupB, Bool.or_eq_true, List.any_eq_true, List.nodup_cons, Classical.not_and_iff_not_or_not, Classical.not_not, ih]
    refine or_congr ⟨fun ⟨y, h1, h2⟩ => by rw [← ba_eq h2]; exact h1, fun h => ⟨x, h, ba_refl x⟩⟩ Iff.rfl
theorem srtW_perm (l : Wd) : (srtW l).Perm l := by
  have h := (List.mergeSort_perm (bss l) fun x y => decide (x ≤ y)).map fun x => (⟨x.toArray⟩ : ByteArray)
  refine h.trans ?_
  have : (bss l).map (fun x => (⟨x.toArray⟩ : ByteArray)) = l := by
    simp only [bss, List.map_map]
    rw [List.map_congr_left (g := id) (fun x _ => by cases x; simp)]
    simp
  rw [this]
theorem srtW_le (l : Wd) : (srtW l).Pairwise fun a b => a.data.toList ≤ b.data.toList := by
  have h := List.pairwise_mergeSort (le := fun x y : List UInt8 => decide (x ≤ y)) (fun a b c h1 h2 => by
    simp only [decide_eq_true_eq] at *
    exact List.le_trans h1 h2) (fun a b => by
    simp only [Bool.or_eq_true, decide_eq_true_eq]
    exact List.le_total a b) (bss l)
  rw [srtW, List.pairwise_map]
  exact h.imp fun h => by simpa using h
theorem adj_of_sorted {s : Wd} (hs : s.Pairwise fun a b => a.data.toList ≤ b.data.toList) : Adj s ↔ ¬ s.Nodup := by
  constructor
  · rintro ⟨j, h1, h2, h3⟩ hn
    have := (List.pairwise_iff_getElem.1 hn) (j - 1) j (by omega) h2 (by omega)
    exact this h3.symm
  · intro hn
    have : ∃ i j, ∃ (hi : i < s.length) (hj : j < s.length), i < j ∧ s[i] = s[j] := by
      refine Classical.byContradiction fun hc => hn (List.pairwise_iff_getElem.2 fun i j hi hj hij he => hc ⟨i, j, hi, hj, hij, he⟩)
    obtain ⟨i, j, hi, hj, hij, he⟩ := this
    have hp := List.pairwise_iff_getElem.1 hs
    refine ⟨i + 1, by omega, by omega, ?_⟩
    have e1 := hp i (i + 1) hi (by omega) (by omega)
    have e2 : (s[i + 1]'(by omega)).data.toList ≤ s[j].data.toList := by
      by_cases e : i + 1 = j
      · subst e; exact List.le_refl _
      · exact hp (i + 1) j (by omega) hj (by omega)
    rw [← he] at e2
    have e3 := List.le_antisymm e2 e1
    simp only [Nat.add_sub_cancel]
    generalize s[i + 1] = a at e3
    generalize s[i] = b at e3
    cases a; cases b
    simp only [Array.toList_inj] at e3
    rw [e3]
theorem adj_srt (l : Wd) : Adj (srtW l) ↔ dupB l = true := by
  rw [adj_of_sorted (srtW_le l), dupB_iff, (srtW_perm l).nodup_iff]
/-- What is wrong with a cutter. -/
def valW (c : Cut) : Int :=
  if (lsC c).any bigL then 3
  else if ((List.range 4).any fun i => ((lsC c).getD i []).any (badS i)) then 1
  else if (lsC c).any dupB then 5 else 0
end Go.Proofs.Ytapkbkniooleaaa.Vs
