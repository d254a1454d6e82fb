/- numbers of Ytapkbkniooleaaa -/
import Derived.Test.YtapkbkniooleaaaTkK
import Derived.Test.YtapkbkniooleaaaTkM
namespace Go.Proofs.Ytapkbkniooleaaa.Vs
set_option linter.unusedVariables false
set_option linter.unusedSimpArgs false
set_option maxRecDepth 100000
theorem ba_extL {a b : ByteArray} (h : a.data.toList = b.data.toList) : a = b := by cases a; cases b; congr 1; exact Array.toList_inj.1 h
theorem Values_p (l : Wd) (σ : Heap) : PCall Zs 26 [encSS l] σ (fun d τ => d = .func 48 [.ptr σ.next 0] ∧ τ = σ.new (.cells 22 [encSS l])) := by
  refine pcall_of (Z := Zs) ok26 fun hcl hbl => ?_
  simp -dsimp only [L26, encSS, ↓preB, postB, genB, ↓reduceIte, Nat.reduceEqDiff, Int.reduceToNat, Int.reduceLE, Int.reduceLT, Nat.reduceAdd, Nat.reduceLeDiff, intBin, strBin, unD, extractD, lit1, lit2, lit3, keptD, boxR, D.one, D.pub1, D.cells, splice, cutOwn]
  exact Ret.now (Nat.le_succ _) ⟨rfl, rfl⟩
theorem lsC_at (c : Cut) {k : Nat} (h : k < 4) : (cellsC c)[k]? = some (encSS ((lsC c)[k]'h)) := by
  rw [cellsC_ls, List.getElem?_map, List.getElem?_eq_getElem (show k < (lsC c).length from h)]
  rfl
theorem indexTk_c (w : Wd) (p : ByteArray → Bool) (g : FuncId) (caps : List D) (hp : ∀ x ∈ w, Fn Zs g (.str x :: caps) (.bool (p x))) :
    Fn Zs 44 [encSS w, .func g caps] (.int .i64 (idxOf p w)) := by
  refine fn_of (Z := Zs) ok44 fun σ hcl hbl => ?_
  simp -dsimp only [L44, encSS, ↓preB, postB, genB, ↓reduceIte, Nat.reduceEqDiff, Int.reduceToNat, Int.reduceLE, Int.reduceLT, Nat.reduceAdd, Nat.reduceLeDiff, intBin, strBin, unD, extractD, lit1, lit2, lit3, keptD, boxR, D.one, D.pub1, D.cells, splice, cutOwn]
  intro hbig
  refine pwp_loopG (fun k env s => k ≤ w.length ∧ (∀ j (h : j < w.length), j < k → p w[j] = false) ∧ s = σ ∧ env 8 = .int .i64 (k:Nat) ∧ env 7 = .int .i64 w.length ∧ env 0 = encSS w ∧ env 1 = .func g caps) (fun k => w.length - k) 0 ?_ ?_
  · simp [upd_apply, envOf, encSS]
  · rintro k env s ⟨hk, hp', rfl, h8, h7, h0, h1⟩
    rcases Nat.lt_or_ge k w.length with hlt | hge
    · have hx : w[k]? = some w[k] := List.getElem?_eq_getElem hlt
      simp -dsimp only [h8, h7, h0, h1, encSS, hlt, hx, ↓preB, postB, genB, ↓reduceIte, Nat.reduceEqDiff, Int.reduceToNat, Int.reduceLE, Int.reduceLT, Nat.reduceAdd, Nat.reduceLeDiff, intBin, strBin, unD, extractD, lit1, lit2, lit3, keptD, boxR, D.one, D.pub1, D.cells, splice, cutOwn]
      refine ⟨by omega, Fn.use (hp _ (List.getElem_mem hlt)) ?_⟩
      cases hq : p w[k] <;> simp -dsimp only [h8, h7, h0, h1, hq, ↓preB, postB, genB, ↓reduceIte, Nat.reduceEqDiff, Int.reduceToNat, Int.reduceLE, Int.reduceLT, Nat.reduceAdd, Nat.reduceLeDiff, intBin, strBin, unD, extractD, lit1, lit2, lit3, keptD, boxR, D.one, D.pub1, D.cells, splice, cutOwn]
      · refine ⟨k + 1, ⟨by omega, fun j hj hjk => ?_, wrap64_succ (by omega)⟩, by omega⟩
        rcases Nat.lt_succ_iff_lt_or_eq.1 hjk with h | rfl
        · exact hp' j hj h
        · exact hq
      · refine Ret.is ?_
        have : w.findIdx? p = some k := by
          rw [List.findIdx?_eq_some_iff_getElem]
          exact ⟨hlt, hq, fun j hj => by simp [hp' j (by omega) hj]⟩
        simp [idxOf, this]
    · simp -dsimp only [h8, h7, h0, h1, encSS, Nat.not_lt.2 hge, ↓preB, postB, genB, ↓reduceIte, Nat.reduceEqDiff, Int.reduceToNat, Int.reduceLE, Int.reduceLT, Nat.reduceAdd, Nat.reduceLeDiff, intBin, strBin, unD, extractD, lit1, lit2, lit3, keptD, boxR, D.one, D.pub1, D.cells, splice, cutOwn]
      refine Ret.is ?_
      have : w.findIdx? p = none := by
        rw [List.findIdx?_eq_none_iff]
        intro x hx
        obtain ⟨j, hj, rfl⟩ := List.getElem_of_mem hx
        exact hp' j hj (by omega)
      simp [idxOf, this]

theorem idxOfT_any {α : Type} (p : α → Bool) (w : List α) : decide (0 ≤ idxOf p w) = w.any p := by
  unfold idxOf
  cases h : w.findIdx? p with
  | none =>
    rw [List.findIdx?_eq_none_iff] at h
    simp only [show ¬ ((0:Int) ≤ -1) by decide, decide_false]
    symm
    rw [List.any_eq_false]
    exact fun x hx => by simp [h x hx]
  | some i =>
    rw [List.findIdx?_eq_some_iff_getElem] at h
    obtain ⟨h1, h2, _⟩ := h
    simp only [show (0:Int) ≤ (i:Int) by omega, decide_true]
    symm
    rw [List.any_eq_true]
    exact ⟨_, List.getElem_mem h1, h2⟩

theorem containsTk_c (w : Wd) (p : ByteArray → Bool) (g : FuncId) (caps : List D) (hp : ∀ x ∈ w, Fn Zs g (.str x :: caps) (.bool (p x))) :
    Fn Zs 21 [encSS w, .func g caps] (.bool (w.any p)) := by
  refine fn_of (Z := Zs) ok21 fun σ hcl hbl => ?_
  simp -dsimp only [L21, ↓preB, postB, genB, ↓reduceIte, Nat.reduceEqDiff, Int.reduceToNat, Int.reduceLE, Int.reduceLT, Nat.reduceAdd, Nat.reduceLeDiff, intBin, strBin, unD, extractD, lit1, lit2, lit3, keptD, boxR, D.one, D.pub1, D.cells, splice, cutOwn]
  refine Fn.use (indexTk_c w p g caps hp) ?_
  simp -dsimp only [↓preB, postB, genB, ↓reduceIte, Nat.reduceEqDiff, Int.reduceToNat, Int.reduceLE, Int.reduceLT, Nat.reduceAdd, Nat.reduceLeDiff, intBin, strBin, unD, extractD, lit1, lit2, lit3, keptD, boxR, D.one, D.pub1, D.cells, splice, cutOwn]
  exact Ret.is (by rw [← idxOfT_any])

theorem ls_getD (c : Cut) {k : Nat} (h : k < 4) : (lsC c).getD k [] = (lsC c)[k]'h := by
  rw [List.getD_eq_getElem?_getD, List.getElem?_eq_getElem (show k < (lsC c).length from h)]; rfl
theorem any_ls_true {p : Wd → Bool} (c : Cut) {k : Nat} (h : k < 4) (hp : p ((lsC c)[k]'h) = true) : (lsC c).any p = true := List.any_eq_true.2 ⟨_, List.getElem_mem _, hp⟩
theorem any_ls_false {p : Wd → Bool} (c : Cut) (hp : ∀ j (h : j < 4), p ((lsC c)[j]'h) = false) : (lsC c).any p = false := List.any_eq_false.2 fun x hx => by
  obtain ⟨i, hi, rfl⟩ := List.getElem_of_mem hx
  rw [hp i hi]; decide
theorem bad_ls_true (c : Cut) {k : Nat} (h : k < 4) (hp : ((lsC c)[k]'h).any (badS k) = true) : ((List.range 4).any fun i => ((lsC c).getD i []).any (badS i)) = true := List.any_eq_true.2 ⟨k, List.mem_range.2 h, by rw [ls_getD c h]; exact hp⟩
theorem bad_ls_false (c : Cut) (hp : ∀ j (h : j < 4), ((lsC c)[j]'h).any (badS j) = false) : ((List.range 4).any fun i => ((lsC c).getD i []).any (badS i)) = false := List.any_eq_false.2 fun x hx => by
  have := List.mem_range.1 hx
  rw [ls_getD c this, hp x this]; decide
theorem Validate_c (c : Cut) : Fn Zs 10 [encC c] (.int .i64 (valW c)) := by
  refine fn_of (Z := Zs) ok10 fun σ hcl hbl => ?_
  simp -dsimp only [L10, encC, ↓preB, postB, genB, ↓reduceIte, Nat.reduceEqDiff, Int.reduceToNat, Int.reduceLE, Int.reduceLT, Nat.reduceAdd, Nat.reduceLeDiff, intBin, strBin, unD, extractD, lit1, lit2, lit3, keptD, boxR, D.one, D.pub1, D.cells, splice, cutOwn]
  obtain ⟨H, hH⟩ : ∃ H, H = σ.new (.cells 24 (cellsC c)) := ⟨_, rfl⟩
  have hcl1 : Closed H := by rw [hH]; exact hcl.new (bel_C c)
  have hle1 : HLe σ H := by rw [hH]; exact HLe.self_new _ hcl
  have hg1 : H.get σ.next = some (.cells 24 (cellsC c)) := by rw [hH]; exact Heap.new_same _ _
  rw [← hH]
  clear hH
  have done : ∀ (x : Int) (τ : Heap), HLe H τ → Ret σ (fun d τ => d = .int .i64 x ∧ τ = σ) (.int .i64 x) τ := fun x τ h => Ret.isH (hle1.trans h) hcl rfl (.int _ _)
  have hlen : (cellsC c).length = 4 := rfl
  have htk : (cellsC c).take 4 = cellsC c := rfl
  have hL := lists_c c
  unfold encC at hL
  simp -dsimp only [hg1, hlen, htk, List.drop_zero, ↓preB, postB, genB, ↓reduceIte, Nat.reduceEqDiff, Int.reduceToNat, Int.reduceLE, Int.reduceLT, Nat.reduceAdd, Nat.reduceLeDiff, intBin, strBin, unD, extractD, lit1, lit2, lit3, keptD, boxR, D.one, D.pub1, D.cells, splice, cutOwn]
  refine Fn.use hL ?_
  simp -dsimp only [hg1, hlen, htk, List.drop_zero, ↓preB, postB, genB, ↓reduceIte, Nat.reduceEqDiff, Int.reduceToNat, Int.reduceLE, Int.reduceLT, Nat.reduceAdd, Nat.reduceLeDiff, intBin, strBin, unD, extractD, lit1, lit2, lit3, keptD, boxR, D.one, D.pub1, D.cells, splice, cutOwn]
  intro _
  refine pwp_loopJ 0 (fun e τ => (∀ j (h : j < 4), bigL ((lsC c)[j]'h) = false) ∧ τ = H ∧ e 1 = .ptr σ.next 0) (fun k env τ => k ≤ 4 ∧ (∀ j (h : j < 4), j < k → bigL ((lsC c)[j]'h) = false) ∧ τ = H ∧ env 15 = .int .i64 (k:Nat) ∧ env 14 = .int .i64 4 ∧ env 13 = .sl .full 4 (cellsC c) ∧ env 1 = .ptr σ.next 0) (fun k => 4 - k) 0 ?_ ?_ ?_
  · simp only [upd_apply, envOf_apply, Nat.reduceEqDiff, if_true, if_false]
    exact ⟨Nat.zero_le _, fun j h hj => absurd hj (Nat.not_lt_zero _), (by first | trivial | rfl | omega), (by first | trivial | rfl | omega), (by first | trivial | rfl | omega), (by first | trivial | rfl | omega), (by first | trivial | rfl | omega)⟩
  · rintro k env τ ⟨hk, hp, rfl, h15, h14, h13, h1⟩
    rcases Nat.lt_or_ge k 4 with hlt | hge
    · have hn : (k : Int) < 4 := by omega
      have hx := lsC_at c hlt
      have yes : bigL ((lsC c)[k]'hlt) = true → valW c = 3 := fun h => by rw [valW, if_pos (any_ls_true c hlt h)]
      have no : bigL ((lsC c)[k]'hlt) = false → ∀ j (h : j < 4), j < k + 1 → bigL ((lsC c)[j]'h) = false := fun h j hj hjk => by
        by_cases e : j = k
        · subst e; exact h
        · exact hp j hj (by omega)
      generalize (lsC c)[k]'hlt = l at hx yes no
      simp -dsimp only [h15, h14, h13, h1, hn, hlt, hx, hlen, encSS, exitR_ret, ↓preB, postB, genB, ↓reduceIte, Nat.reduceEqDiff, Int.reduceToNat, Int.reduceLE, Int.reduceLT, Nat.reduceAdd, Nat.reduceLeDiff, intBin, strBin, unD, extractD, lit1, lit2, lit3, keptD, boxR, D.one, D.pub1, D.cells, splice, cutOwn]
      refine ⟨by omega, fun hlb => ?_⟩
      have hC := containsTk_c l _ 22 [] (fun x _ => encLen_c x)
      unfold encSS at hC
      by_cases c1 : (300 : Int) < l.length
      · have hb : bigL l = true := by unfold bigL; rw [decide_eq_true (by omega), Bool.true_or]
        rw [yes hb]
        simp -dsimp only [h15, h14, h13, h1, hn, hlt, hx, hlen, c1, encSS, exitR_ret, gate, decide_true, decide_false, Bool.not_true, Bool.not_false, bTT, bTF, bFT, bFF, ↓preB, postB, genB, ↓reduceIte, Nat.reduceEqDiff, Int.reduceToNat, Int.reduceLE, Int.reduceLT, Nat.reduceAdd, Nat.reduceLeDiff, intBin, strBin, unD, extractD, lit1, lit2, lit3, keptD, boxR, D.one, D.pub1, D.cells, splice, cutOwn]
        exact done _ _ (HLe.refl _)
      · have hb : bigL l = l.any fun s => decide (400 < s.size) := by unfold bigL; rw [decide_eq_false (by omega), Bool.false_or]
        simp -dsimp only [h15, h14, h13, h1, hn, hlt, hx, hlen, c1, encSS, exitR_ret, gate, decide_true, decide_false, Bool.not_true, Bool.not_false, bTT, bTF, bFT, bFF, ↓preB, postB, genB, ↓reduceIte, Nat.reduceEqDiff, Int.reduceToNat, Int.reduceLE, Int.reduceLT, Nat.reduceAdd, Nat.reduceLeDiff, intBin, strBin, unD, extractD, lit1, lit2, lit3, keptD, boxR, D.one, D.pub1, D.cells, splice, cutOwn]
        refine Fn.use hC ?_
        rw [← hb]
        cases q : bigL l
        · simp -dsimp only [h15, h14, h13, h1, hn, hlt, hx, hlen, c1, q, encSS, exitR_ret, gate, decide_true, decide_false, Bool.not_true, Bool.not_false, bTT, bTF, bFT, bFF, ↓preB, postB, genB, ↓reduceIte, Nat.reduceEqDiff, Int.reduceToNat, Int.reduceLE, Int.reduceLT, Nat.reduceAdd, Nat.reduceLeDiff, intBin, strBin, unD, extractD, lit1, lit2, lit3, keptD, boxR, D.one, D.pub1, D.cells, splice, cutOwn]
          exact ⟨k + 1, ⟨by omega, no q, wrap64_succ (by simp only [big]; omega)⟩, by omega⟩
        · rw [yes q]
          simp -dsimp only [h15, h14, h13, h1, hn, hlt, hx, hlen, c1, q, encSS, exitR_ret, gate, decide_true, decide_false, Bool.not_true, Bool.not_false, bTT, bTF, bFT, bFF, ↓preB, postB, genB, ↓reduceIte, Nat.reduceEqDiff, Int.reduceToNat, Int.reduceLE, Int.reduceLT, Nat.reduceAdd, Nat.reduceLeDiff, intBin, strBin, unD, extractD, lit1, lit2, lit3, keptD, boxR, D.one, D.pub1, D.cells, splice, cutOwn]
          exact done _ _ (HLe.refl _)
    · have hn : ¬ (k : Int) < 4 := by omega
      simp -dsimp only [h15, h14, h13, h1, hn, hg1, hlen, htk, exitR_exit, ↓preB, postB, genB, ↓reduceIte, Nat.reduceEqDiff, Int.reduceToNat, Int.reduceLE, Int.reduceLT, Nat.reduceAdd, Nat.reduceLeDiff, intBin, strBin, unD, extractD, lit1, lit2, lit3, keptD, boxR, D.one, D.pub1, D.cells, splice, cutOwn]
      exact fun j hj => hp j hj (by omega)
  rintro env τ ⟨hbig, rfl, h1⟩
  have hbig0 : (lsC c).any bigL = false := any_ls_false c hbig
  simp -dsimp only [h1, hg1, hlen, htk, List.drop_zero, ↓preB, postB, genB, ↓reduceIte, Nat.reduceEqDiff, Int.reduceToNat, Int.reduceLE, Int.reduceLT, Nat.reduceAdd, Nat.reduceLeDiff, intBin, strBin, unD, extractD, lit1, lit2, lit3, keptD, boxR, D.one, D.pub1, D.cells, splice, cutOwn]
  refine Fn.use hL ?_
  simp -dsimp only [h1, hg1, hlen, htk, List.drop_zero, ↓preB, postB, genB, ↓reduceIte, Nat.reduceEqDiff, Int.reduceToNat, Int.reduceLE, Int.reduceLT, Nat.reduceAdd, Nat.reduceLeDiff, intBin, strBin, unD, extractD, lit1, lit2, lit3, keptD, boxR, D.one, D.pub1, D.cells, splice, cutOwn]
  intro _
  refine pwp_loopJ 2 (fun e s => (∀ j (h : j < 4), ((lsC c)[j]'h).any (badS j) = false) ∧ s = τ ∧ e 1 = .ptr σ.next 0) (fun k env s => k ≤ 4 ∧ (∀ j (h : j < 4), j < k → ((lsC c)[j]'h).any (badS j) = false) ∧ s = τ ∧ env 30 = .int .i64 (k:Nat) ∧ env 29 = .int .i64 4 ∧ env 28 = .sl .full 4 (cellsC c) ∧ env 1 = .ptr σ.next 0) (fun k => 4 - k) 0 ?_ ?_ ?_
  · simp only [upd_apply, h1, Nat.reduceEqDiff, if_true, if_false]
    exact ⟨Nat.zero_le _, fun j h hj => absurd hj (Nat.not_lt_zero _), (by first | trivial | rfl | omega), (by first | trivial | rfl | omega), (by first | trivial | rfl | omega), (by first | trivial | rfl | omega), (by first | trivial | rfl | omega)⟩
  · clear h1
    rintro k env s ⟨hk, hp, rfl, h30, h29, h28, h1⟩
    rcases Nat.lt_or_ge k 4 with hlt | hge
    · have hn : (k : Int) < 4 := by omega
      have hx := lsC_at c hlt
      have yes : ((lsC c)[k]'hlt).any (badS k) = true → valW c = 1 := fun h => by rw [valW, hbig0, if_neg (by decide), if_pos (bad_ls_true c hlt h)]
      have no : ((lsC c)[k]'hlt).any (badS k) = false → ∀ j (h : j < 4), j < k + 1 → ((lsC c)[j]'h).any (badS j) = false := fun h j hj hjk => by
        by_cases e : j = k
        · subst e; exact h
        · exact hp j hj (by omega)
      generalize (lsC c)[k]'hlt = l at hx yes no
      simp -dsimp only [h30, h29, h28, h1, hn, hlt, hx, hlen, encSS, exitR_ret, ↓preB, postB, genB, ↓reduceIte, Nat.reduceEqDiff, Int.reduceToNat, Int.reduceLE, Int.reduceLT, Nat.reduceAdd, Nat.reduceLeDiff, intBin, strBin, unD, extractD, lit1, lit2, lit3, keptD, boxR, D.one, D.pub1, D.cells, splice, cutOwn]
      refine ⟨by omega, fun hlb => ?_⟩
      refine pwp_loopJ 4 (fun e s' => l.any (badS k) = false ∧ s' = s ∧ e 30 = .int .i64 (k:Nat) ∧ e 29 = .int .i64 4 ∧ e 28 = .sl .full 4 (cellsC c) ∧ e 1 = .ptr σ.next 0) (fun i e s' => i ≤ l.length ∧ (∀ j (h : j < l.length), j < i → badS k l[j] = false) ∧ s' = s ∧ e 37 = .int .i64 (i:Nat) ∧ e 36 = .int .i64 l.length ∧ e 35 = encSS l ∧ e 5 = .int .i64 (k:Nat) ∧ e 30 = .int .i64 (k:Nat) ∧ e 29 = .int .i64 4 ∧ e 28 = .sl .full 4 (cellsC c) ∧ e 1 = .ptr σ.next 0) (fun i => l.length - i) 0 ?_ ?_ ?_
      · simp only [upd_apply, h30, h29, h28, h1, Nat.reduceEqDiff, if_true, if_false, encSS]
        exact ⟨Nat.zero_le _, fun j h hj => absurd hj (Nat.not_lt_zero _), (by first | trivial | rfl | omega), (by first | trivial | rfl | omega), (by first | trivial | rfl | omega), (by first | trivial | rfl | omega), (by first | trivial | rfl | omega), (by first | trivial | rfl | omega), (by first | trivial | rfl | omega), (by first | trivial | rfl | omega), (by first | trivial | rfl | omega)⟩
      · clear h30 h29 h28 h1
        rintro i e s' ⟨hi, hpi, rfl, g37, g36, g35, g5, h30, h29, h28, h1⟩
        rcases Nat.lt_or_ge i l.length with hil | hig
        · have hni : (i : Int) < l.length := by omega
          have hxi : l[i]? = some l[i] := List.getElem?_eq_getElem hil
          have yes1 : badS k l[i] = true → valW c = 1 := fun h => yes (List.any_eq_true.2 ⟨_, List.getElem_mem hil, h⟩)
          have no1 : badS k l[i] = false → ∀ j (h : j < l.length), j < i + 1 → badS k l[j] = false := fun h j hj hjk => by
            by_cases e : j = i
            · subst e; exact h
            · exact hpi j hj (by omega)
          generalize l[i] = x at hxi yes1 no1
          have hb0 : badS k x = (decide (x.size = 0) || (decide (k < 2) && !unitB x) || (decide (k = 1) && !(byteAt x (x.size - 1) == 46)) || (decide (1 < k) && !clitB x)) := rfl
          rw [hb0] at yes1 no1
          clear hb0
          have hl0 : 0 < l.length := by omega
          by_cases x0 : x.size = 0
          · have e0 : x = ⟨#[]⟩ := ba_extL (List.eq_nil_of_length_eq_zero x0)
            have c0 : (x == (⟨#[]⟩ : ByteArray)) = true := by rw [e0]; rfl
            rw [yes1 (by rw [decide_eq_true x0]; rfl)]
            simp -dsimp only [g37, g36, g35, g5, h30, h29, h28, h1, hni, hil, hxi, c0, encSS, exitR_ret, gate, decide_true, decide_false, Bool.not_true, Bool.not_false, bTT, bTF, bFT, bFF, ↓preB, postB, genB, ↓reduceIte, Nat.reduceEqDiff, Int.reduceToNat, Int.reduceLE, Int.reduceLT, Nat.reduceAdd, Nat.reduceLeDiff, intBin, strBin, unD, extractD, lit1, lit2, lit3, keptD, boxR, D.one, D.pub1, D.cells, splice, cutOwn]
            exact ⟨by omega, done _ _ (HLe.refl _)⟩
          have c0 : (x == (⟨#[]⟩ : ByteArray)) = false := by
            rw [Bool.eq_false_iff]
            intro h
            exact x0 (by rw [ba_eq h]; rfl)
          have hU := isUnit_c x (by omega)
          have hCl := isClitic_c x
          rw [decide_eq_false x0, Bool.false_or] at yes1 no1
          have x1 : (0 : Int) < x.size := by omega
          have x2 : x.size - 1 < x.size := by omega
          have w1 : x.size ≤ big → IntKind.i64.wrap ((x.size : Int) - 1) = ((x.size - 1 : Nat) : Int) := fun hb => by
            simp only [big] at hb
            rw [wrap64_in (by omega) (by omega)]; omega
          have wi := wrap64_succ (k := i) (by have := hlb; omega)
          by_cases k2 : 2 ≤ k
          · have c2 : ¬ (k : Int) < 2 := by omega
            have c3 : ((k : Int) == 1) = false := by simp only [beq_eq_false_iff_ne, ne_eq]; omega
            have c4 : (1 : Int) < k := by omega
            rw [decide_eq_false (p := k < 2) (by omega), decide_eq_false (p := k = 1) (by omega), decide_eq_true (p := 1 < k) (by omega)] at yes1 no1
            simp only [Bool.false_and, Bool.true_and, Bool.false_or] at yes1 no1
            simp -dsimp only [g37, g36, g35, g5, h30, h29, h28, h1, hni, hil, hxi, c0, c2, c3, c4, encSS, exitR_ret, gate, decide_true, decide_false, Bool.not_true, Bool.not_false, bTT, bTF, bFT, bFF, ↓preB, postB, genB, ↓reduceIte, Nat.reduceEqDiff, Int.reduceToNat, Int.reduceLE, Int.reduceLT, Nat.reduceAdd, Nat.reduceLeDiff, intBin, strBin, unD, extractD, lit1, lit2, lit3, keptD, boxR, D.one, D.pub1, D.cells, splice, cutOwn]
            refine ⟨by omega, Fn.use hCl ?_⟩
            cases q : clitB x
            · rw [yes1 (by rw [q]; rfl)]
              simp -dsimp only [g37, g36, g35, g5, h30, h29, h28, h1, hni, hil, hxi, c0, c2, c3, c4, q, encSS, exitR_ret, gate, decide_true, decide_false, Bool.not_true, Bool.not_false, bTT, bTF, bFT, bFF, ↓preB, postB, genB, ↓reduceIte, Nat.reduceEqDiff, Int.reduceToNat, Int.reduceLE, Int.reduceLT, Nat.reduceAdd, Nat.reduceLeDiff, intBin, strBin, unD, extractD, lit1, lit2, lit3, keptD, boxR, D.one, D.pub1, D.cells, splice, cutOwn]
              exact done _ _ (HLe.refl _)
            · simp -dsimp only [g37, g36, g35, g5, h30, h29, h28, h1, hni, hil, hxi, c0, c2, c3, c4, q, encSS, exitR_ret, gate, decide_true, decide_false, Bool.not_true, Bool.not_false, bTT, bTF, bFT, bFF, ↓preB, postB, genB, ↓reduceIte, Nat.reduceEqDiff, Int.reduceToNat, Int.reduceLE, Int.reduceLT, Nat.reduceAdd, Nat.reduceLeDiff, intBin, strBin, unD, extractD, lit1, lit2, lit3, keptD, boxR, D.one, D.pub1, D.cells, splice, cutOwn]
              exact ⟨i + 1, ⟨by omega, no1 (by rw [q]; rfl), wi⟩, by omega⟩
          have c2 : (k : Int) < 2 := by omega
          have c4 : ¬ (1 : Int) < k := by omega
          rw [decide_eq_true (p := k < 2) (by omega), decide_eq_false (p := 1 < k) (by omega)] at yes1 no1
          simp only [Bool.false_and, Bool.true_and, Bool.or_false] at yes1 no1
          simp -dsimp only [g37, g36, g35, g5, h30, h29, h28, h1, hni, hil, hxi, c0, c2, encSS, exitR_ret, gate, decide_true, decide_false, Bool.not_true, Bool.not_false, bTT, bTF, bFT, bFF, ↓preB, postB, genB, ↓reduceIte, Nat.reduceEqDiff, Int.reduceToNat, Int.reduceLE, Int.reduceLT, Nat.reduceAdd, Nat.reduceLeDiff, intBin, strBin, unD, extractD, lit1, lit2, lit3, keptD, boxR, D.one, D.pub1, D.cells, splice, cutOwn]
          refine ⟨by omega, Fn.use hU ?_⟩
          cases q : unitB x
          · rw [yes1 (by rw [q]; rfl)]
            simp -dsimp only [g37, g36, g35, g5, h30, h29, h28, h1, hni, hil, hxi, c0, c2, q, encSS, exitR_ret, gate, decide_true, decide_false, Bool.not_true, Bool.not_false, bTT, bTF, bFT, bFF, ↓preB, postB, genB, ↓reduceIte, Nat.reduceEqDiff, Int.reduceToNat, Int.reduceLE, Int.reduceLT, Nat.reduceAdd, Nat.reduceLeDiff, intBin, strBin, unD, extractD, lit1, lit2, lit3, keptD, boxR, D.one, D.pub1, D.cells, splice, cutOwn]
            exact done _ _ (HLe.refl _)
          rw [q] at yes1 no1
          simp only [Bool.not_true, Bool.false_or] at yes1 no1
          by_cases k1 : k = 1
          · have c3 : ((k : Int) == 1) = true := by rw [k1]; rfl
            rw [decide_eq_true k1, Bool.true_and] at yes1 no1
            have hb46 : (byteAt x (x.size - 1) == 46) = !(byteAt x (x.size - 1) != 46) := by simp [bne]
            rw [hb46, Bool.not_not] at yes1 no1
            simp -dsimp only [g37, g36, g35, g5, h30, h29, h28, h1, hni, hil, hxi, c0, c2, c3, c4, q, encSS, exitR_ret, gate, decide_true, decide_false, Bool.not_true, Bool.not_false, bTT, bTF, bFT, bFF, ↓preB, postB, genB, ↓reduceIte, Nat.reduceEqDiff, Int.reduceToNat, Int.reduceLE, Int.reduceLT, Nat.reduceAdd, Nat.reduceLeDiff, intBin, strBin, unD, extractD, lit1, lit2, lit3, keptD, boxR, D.one, D.pub1, D.cells, splice, cutOwn]
            intro hb
            cases q4 : (byteAt x (x.size - 1) != 46)
            · simp -dsimp only [g37, g36, g35, g5, h30, h29, h28, h1, hni, hil, hxi, c0, c2, c3, c4, q, q4, x2, w1 hb, encSS, exitR_ret, gate, decide_true, decide_false, Bool.not_true, Bool.not_false, bTT, bTF, bFT, bFF, ↓preB, postB, genB, ↓reduceIte, Nat.reduceEqDiff, Int.reduceToNat, Int.reduceLE, Int.reduceLT, Nat.reduceAdd, Nat.reduceLeDiff, intBin, strBin, unD, extractD, lit1, lit2, lit3, keptD, boxR, D.one, D.pub1, D.cells, splice, cutOwn]
              exact ⟨i + 1, ⟨by omega, no1 q4, wi⟩, by omega⟩
            · rw [yes1 q4]
              simp -dsimp only [g37, g36, g35, g5, h30, h29, h28, h1, hni, hil, hxi, c0, c2, c3, c4, q, q4, x2, w1 hb, encSS, exitR_ret, gate, decide_true, decide_false, Bool.not_true, Bool.not_false, bTT, bTF, bFT, bFF, ↓preB, postB, genB, ↓reduceIte, Nat.reduceEqDiff, Int.reduceToNat, Int.reduceLE, Int.reduceLT, Nat.reduceAdd, Nat.reduceLeDiff, intBin, strBin, unD, extractD, lit1, lit2, lit3, keptD, boxR, D.one, D.pub1, D.cells, splice, cutOwn]
              exact done _ _ (HLe.refl _)
          · have c3 : ((k : Int) == 1) = false := by simp only [beq_eq_false_iff_ne, ne_eq]; omega
            simp -dsimp only [g37, g36, g35, g5, h30, h29, h28, h1, hni, hil, hxi, c0, c2, c3, c4, q, encSS, exitR_ret, gate, decide_true, decide_false, Bool.not_true, Bool.not_false, bTT, bTF, bFT, bFF, ↓preB, postB, genB, ↓reduceIte, Nat.reduceEqDiff, Int.reduceToNat, Int.reduceLE, Int.reduceLT, Nat.reduceAdd, Nat.reduceLeDiff, intBin, strBin, unD, extractD, lit1, lit2, lit3, keptD, boxR, D.one, D.pub1, D.cells, splice, cutOwn]
            exact ⟨i + 1, ⟨by omega, no1 (by rw [decide_eq_false k1]; rfl), wi⟩, by omega⟩
        · have hni : ¬ (i : Int) < l.length := by omega
          simp -dsimp only [g37, g36, g35, g5, h30, h29, h28, h1, hni, exitR_exit, ↓preB, postB, genB, ↓reduceIte, Nat.reduceEqDiff, Int.reduceToNat, Int.reduceLE, Int.reduceLT, Nat.reduceAdd, Nat.reduceLeDiff, intBin, strBin, unD, extractD, lit1, lit2, lit3, keptD, boxR, D.one, D.pub1, D.cells, splice, cutOwn]
          exact List.any_eq_false.2 fun x hx => by
            obtain ⟨j, hj, rfl⟩ := List.getElem_of_mem hx
            rw [hpi j hj (by omega)]; decide
      · clear h30 h29 h28 h1
        rintro e s' ⟨hb, rfl, h30, h29, h28, h1⟩
        simp -dsimp only [h30, h29, h28, h1, hn, hlt, exitR_ret, ↓preB, postB, genB, ↓reduceIte, Nat.reduceEqDiff, Int.reduceToNat, Int.reduceLE, Int.reduceLT, Nat.reduceAdd, Nat.reduceLeDiff, intBin, strBin, unD, extractD, lit1, lit2, lit3, keptD, boxR, D.one, D.pub1, D.cells, splice, cutOwn]
        exact ⟨k + 1, ⟨by omega, no hb, wrap64_succ (by simp only [big]; omega)⟩, by omega⟩
    · have hn : ¬ (k : Int) < 4 := by omega
      simp -dsimp only [h30, h29, h28, h1, hn, exitR_exit, ↓preB, postB, genB, ↓reduceIte, Nat.reduceEqDiff, Int.reduceToNat, Int.reduceLE, Int.reduceLT, Nat.reduceAdd, Nat.reduceLeDiff, intBin, strBin, unD, extractD, lit1, lit2, lit3, keptD, boxR, D.one, D.pub1, D.cells, splice, cutOwn]
      exact fun j hj => hp j hj (by omega)
  clear h1
  rintro env s ⟨hbad, rfl, h1⟩
  have hbad0 := bad_ls_false c hbad
  simp -dsimp only [h1, hg1, hlen, htk, List.drop_zero, ↓preB, postB, genB, ↓reduceIte, Nat.reduceEqDiff, Int.reduceToNat, Int.reduceLE, Int.reduceLT, Nat.reduceAdd, Nat.reduceLeDiff, intBin, strBin, unD, extractD, lit1, lit2, lit3, keptD, boxR, D.one, D.pub1, D.cells, splice, cutOwn]
  refine Fn.use hL ?_
  simp -dsimp only [h1, hg1, hlen, htk, List.drop_zero, ↓preB, postB, genB, ↓reduceIte, Nat.reduceEqDiff, Int.reduceToNat, Int.reduceLE, Int.reduceLT, Nat.reduceAdd, Nat.reduceLeDiff, intBin, strBin, unD, extractD, lit1, lit2, lit3, keptD, boxR, D.one, D.pub1, D.cells, splice, cutOwn]
  intro _
  have hdone : (∀ j (h : j < 4), dupB ((lsC c)[j]'h) = false) → valW c = 0 := fun h => by rw [valW, hbig0, hbad0, any_ls_false c h]; rfl
  have hdup : ∀ {k : Nat} (h : k < 4), dupB ((lsC c)[k]'h) = true → valW c = 5 := fun h hd => by rw [valW, hbig0, hbad0, any_ls_true c h hd]; rfl
  refine pwp_loopJ 6 (fun e τ => (∀ j (h : j < 4), dupB ((lsC c)[j]'h) = false) ∧ HLe s τ) (fun k env τ => k ≤ 4 ∧ (∀ j (h : j < 4), j < k → dupB ((lsC c)[j]'h) = false) ∧ HLe s τ ∧ env 78 = .int .i64 (k:Nat) ∧ env 77 = .int .i64 4 ∧ env 76 = .sl .full 4 (cellsC c)) (fun k => 4 - k) 0 ?_ ?_ ?_
  · simp only [upd_apply, h1, Nat.reduceEqDiff, if_true, if_false]
    exact ⟨Nat.zero_le _, fun j h hj => absurd hj (Nat.not_lt_zero _), HLe.refl _, (by first | trivial | rfl | omega), (by first | trivial | rfl | omega), (by first | trivial | rfl | omega)⟩
  · clear h1
    rintro k env τ ⟨hk, hp, hle, h78, h77, h76⟩
    rcases Nat.lt_or_ge k 4 with hlt | hge
    · have hn : (k : Int) < 4 := by omega
      have hx := lsC_at c hlt
      have hbk := hbig k hlt
      have yes := hdup hlt
      have no : dupB ((lsC c)[k]'hlt) = false → ∀ j (h : j < 4), j < k + 1 → dupB ((lsC c)[j]'h) = false := fun h j hj hjk => by
        by_cases e : j = k
        · subst e; exact h
        · exact hp j hj (by omega)
      have wk := wrap64_succ (k := k) (by simp only [big]; omega)
      generalize (lsC c)[k]'hlt = l at hx hbk yes no
      have hl300 : l.length ≤ 300 := by
        unfold bigL at hbk
        simp only [Bool.or_eq_false_iff, decide_eq_false_iff_not] at hbk
        omega
      have hV := Values_p l τ
      have hS := Sorted_p l τ.next (τ.new (.cells 22 [encSS l])) (by omega) (Heap.new_same _ _)
      unfold encSS at hV
      simp -dsimp only [h78, h77, h76, hn, hlt, hx, hlen, encSS, exitR_ret, ↓preB, postB, genB, ↓reduceIte, Nat.reduceEqDiff, Int.reduceToNat, Int.reduceLE, Int.reduceLT, Nat.reduceAdd, Nat.reduceLeDiff, intBin, strBin, unD, extractD, lit1, lit2, lit3, keptD, boxR, D.one, D.pub1, D.cells, splice, cutOwn]
      refine ⟨by omega, PCall.use hV ?_⟩
      rintro d τ1 ⟨rfl, rfl⟩
      simp -dsimp only [h78, h77, h76, hn, hlt, hx, hlen, encSS, exitR_ret, ↓preB, postB, genB, ↓reduceIte, Nat.reduceEqDiff, Int.reduceToNat, Int.reduceLE, Int.reduceLT, Nat.reduceAdd, Nat.reduceLeDiff, intBin, strBin, unD, extractD, lit1, lit2, lit3, keptD, boxR, D.one, D.pub1, D.cells, splice, cutOwn]
      have hle1' : HLe s (τ.new (.cells 22 [encSS l])) := hle.new' _ hcl1
      refine PCall.use hS ?_
      rintro d τ1 (⟨rfl, rfl, rfl⟩ | ⟨h0, rfl, rfl⟩)
      · simp -dsimp only [h78, h77, h76, hn, hlt, hx, hlen, encSS, exitR_ret, ↓preB, postB, genB, ↓reduceIte, Nat.reduceEqDiff, Int.reduceToNat, Int.reduceLE, Int.reduceLT, Nat.reduceAdd, Nat.reduceLeDiff, intBin, strBin, unD, extractD, lit1, lit2, lit3, keptD, boxR, D.one, D.pub1, D.cells, splice, cutOwn]
        refine PCall.use (Compact_nil _) ?_
        rintro d τ1 ⟨rfl, rfl⟩
        simp -dsimp only [h78, h77, h76, hn, hlt, hx, hlen, encSS, exitR_ret, ↓preB, postB, genB, ↓reduceIte, Nat.reduceEqDiff, Int.reduceToNat, Int.reduceLE, Int.reduceLT, Nat.reduceAdd, Nat.reduceLeDiff, intBin, strBin, unD, extractD, lit1, lit2, lit3, keptD, boxR, D.one, D.pub1, D.cells, splice, cutOwn]
        intro _ _
        rw [if_neg (by decide)]
        exact ⟨k + 1, ⟨by omega, no rfl, hle1', wk⟩, by omega⟩
      · have hC := Compact_p (srtW l) (τ.new (.cells 22 [encSS l])).next ((τ.new (.cells 22 [encSS l])).new (.cells 9 ((srtW l).map .str))) (by rw [srtW_len]; omega) (Heap.new_same _ _) (Nat.lt_succ_self _)
        rw [srtW_len] at hC
        simp -dsimp only [h78, h77, h76, hn, hlt, hx, hlen, encSS, exitR_ret, ↓preB, postB, genB, ↓reduceIte, Nat.reduceEqDiff, Int.reduceToNat, Int.reduceLE, Int.reduceLT, Nat.reduceAdd, Nat.reduceLeDiff, intBin, strBin, unD, extractD, lit1, lit2, lit3, keptD, boxR, D.one, D.pub1, D.cells, splice, cutOwn]
        refine PCall.use hC ?_
        rintro d τ1 ⟨m, rfl, hm, hnx, hgt⟩
        have hle2 : HLe s τ1 := by
          refine ⟨?_, fun r o hr => ?_⟩
          · rw [hnx]
            exact Nat.le_trans hle1'.next (Nat.le_succ _)
          · have hrlt := hcl1.lt r o hr
            have hne : r ≠ (τ.new (.cells 22 [encSS l])).next := by have := hle1'.next; omega
            rw [hgt r hne, Heap.new_ne _ _ hne]
            exact hle1'.get r o hr
        have hdA := adj_srt l
        rcases hm with ⟨rfl, hA⟩ | ⟨hm, hA⟩
        · have c0 : ¬ (l.length : Int) < (l.length : Int) := by omega
          have hq : dupB l = false := by
            rw [Bool.eq_false_iff]
            exact fun h => hA (hdA.2 h)
          simp -dsimp only [h78, h77, h76, hn, hlt, hx, hlen, c0, encSS, exitR_ret, ↓preB, postB, genB, ↓reduceIte, Nat.reduceEqDiff, Int.reduceToNat, Int.reduceLE, Int.reduceLT, Nat.reduceAdd, Nat.reduceLeDiff, intBin, strBin, unD, extractD, lit1, lit2, lit3, keptD, boxR, D.one, D.pub1, D.cells, splice, cutOwn]
          intro _ _
          exact ⟨k + 1, ⟨by omega, no hq, hle2, wk⟩, by omega⟩
        · have c0 : (m : Int) < (l.length : Int) := by omega
          rw [yes (hdA.1 hA)]
          simp -dsimp only [h78, h77, h76, hn, hlt, hx, hlen, c0, encSS, exitR_ret, ↓preB, postB, genB, ↓reduceIte, Nat.reduceEqDiff, Int.reduceToNat, Int.reduceLE, Int.reduceLT, Nat.reduceAdd, Nat.reduceLeDiff, intBin, strBin, unD, extractD, lit1, lit2, lit3, keptD, boxR, D.one, D.pub1, D.cells, splice, cutOwn]
          intro _ _
          exact done _ _ hle2
    · have hn : ¬ (k : Int) < 4 := by omega
      simp -dsimp only [h78, h77, h76, hn, exitR_exit, ↓preB, postB, genB, ↓reduceIte, Nat.reduceEqDiff, Int.reduceToNat, Int.reduceLE, Int.reduceLT, Nat.reduceAdd, Nat.reduceLeDiff, intBin, strBin, unD, extractD, lit1, lit2, lit3, keptD, boxR, D.one, D.pub1, D.cells, splice, cutOwn]
      exact ⟨fun j hj => hp j hj (by omega), hle⟩
  · clear h1
    rintro env τ ⟨hd, hle⟩
    rw [hdone hd]
    simp -dsimp only [↓preB, postB, genB, ↓reduceIte, Nat.reduceEqDiff, Int.reduceToNat, Int.reduceLE, Int.reduceLT, Nat.reduceAdd, Nat.reduceLeDiff, intBin, strBin, unD, extractD, lit1, lit2, lit3, keptD, boxR, D.one, D.pub1, D.cells, splice, cutOwn]
    exact done _ _ hle
end Go.Proofs.Ytapkbkniooleaaa.Vs
