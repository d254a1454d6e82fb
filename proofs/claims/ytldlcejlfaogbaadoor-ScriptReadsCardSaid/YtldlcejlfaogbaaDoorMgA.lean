import Derived.Test.YtldlcejlfaogbaaDoorDmIr
import Derived.Test.YtldlcejlfaogbaaDoorDmGen
/- What the small functions on symbols and words come to. -/
namespace Go.Proofs.YtldlcejlfaogbaaDoor.Vs
set_option linter.unusedVariables false
set_option linter.unusedSimpArgs false
set_option maxRecDepth 20000
abbrev Wd := List ByteArray
def encSS (w : Wd) : D := .sl .no w.length (w.map .str)
def idxOf {α : Type} (p : α → Bool) (w : List α) : Int := match w.findIdx? p with | some i => i | none => -1
def badI (n : Int) : Bool := decide (n < 33) || (decide (n > 126) || (n == 60 || n == 62))
def bytesOK (s : ByteArray) : Bool := (List.range s.size).all fun i => !badI (byteAt s i)
def symOK (s : ByteArray) : Bool := bytesOK s && (decide (1 ≤ s.size) && decide (s.size ≤ 16))
theorem bytesOK_true {s : ByteArray} (h : ∀ j, j < s.size → badI (byteAt s j) = false) : bytesOK s = true := by
  simp only [bytesOK, List.all_eq_true, List.mem_range]
  intro j hj
  simp [h j hj]
theorem bytesOK_false {s : ByteArray} {j : Nat} (hj : j < s.size) (h : badI (byteAt s j) = true) : bytesOK s = false := by
  simp only [bytesOK, List.all_eq_false, List.mem_range]
  exact ⟨j, hj, by simp [h]⟩

theorem isSymbol_c (s : ByteArray) : Fn Zs 76 [.str s] (.bool (bytesOK s && !(s == ⟨#[]⟩))) := by
  refine fn_of (Z := Zs) ok76 fun σ hcl hbl => ?_
  simp -dsimp only [L76, ↓preB, postB, genB, ↓reduceIte, Nat.reduceEqDiff, Int.reduceToNat, Int.reduceLE, Int.reduceLT, Nat.reduceAdd, Nat.reduceLeDiff, intBin, strBin, unD, extractD, lit1, lit2, lit3, keptD, boxR, D.one, D.pub1, D.cells, splice, cutOwn]
  intro hbig
  refine pwp_loopG (fun k env s' => k ≤ s.size ∧ (∀ j, j < k → badI (byteAt s j) = false) ∧ s' = σ ∧ env 6 = .int .i64 (k:Nat) ∧ env 5 = .int .i64 s.size ∧ env 0 = .str s) (fun k => s.size - k) 0 ?_ ?_
  · simp [upd_apply, envOf]
  · rintro k env s' ⟨hk, hp, rfl, h6, h5, h0⟩
    rcases Nat.lt_or_ge k s.size with hlt | hge
    · have hb : ∀ c, badI (byteAt s k) = c → c = true → (false = (bytesOK s && !(s == ⟨#[]⟩))) := fun c h1 h2 => by
        rw [bytesOK_false hlt (h1.trans h2)]; rfl
      by_cases c1 : byteAt s k < 33
      · simp -dsimp only [h0, h5, h6, hlt, c1, ↓preB, postB, genB, ↓reduceIte, Nat.reduceEqDiff, Int.reduceToNat, Int.reduceLE, Int.reduceLT, Nat.reduceAdd, Nat.reduceLeDiff, intBin, strBin, unD, extractD, lit1, lit2, lit3, keptD, boxR, D.one, D.pub1, D.cells, splice, cutOwn]
        exact Ret.is (by rw [bytesOK_false hlt (by simp [badI, c1])]; rfl)
      by_cases c2 : byteAt s k > 126
      · simp -dsimp only [h0, h5, h6, hlt, c1, c2, ↓preB, postB, genB, ↓reduceIte, Nat.reduceEqDiff, Int.reduceToNat, Int.reduceLE, Int.reduceLT, Nat.reduceAdd, Nat.reduceLeDiff, intBin, strBin, unD, extractD, lit1, lit2, lit3, keptD, boxR, D.one, D.pub1, D.cells, splice, cutOwn]
        exact Ret.is (by rw [bytesOK_false hlt (by simp [badI, c2])]; rfl)
      by_cases c3 : (byteAt s k == 60) = true
      · simp -dsimp only [h0, h5, h6, hlt, c1, c2, c3, ↓preB, postB, genB, ↓reduceIte, Nat.reduceEqDiff, Int.reduceToNat, Int.reduceLE, Int.reduceLT, Nat.reduceAdd, Nat.reduceLeDiff, intBin, strBin, unD, extractD, lit1, lit2, lit3, keptD, boxR, D.one, D.pub1, D.cells, splice, cutOwn]
        exact Ret.is (by rw [bytesOK_false hlt (by simp [badI, c3])]; rfl)
      by_cases c4 : (byteAt s k == 62) = true
      · simp -dsimp only [h0, h5, h6, hlt, c1, c2, c3, c4, ↓preB, postB, genB, ↓reduceIte, Nat.reduceEqDiff, Int.reduceToNat, Int.reduceLE, Int.reduceLT, Nat.reduceAdd, Nat.reduceLeDiff, intBin, strBin, unD, extractD, lit1, lit2, lit3, keptD, boxR, D.one, D.pub1, D.cells, splice, cutOwn]
        exact Ret.is (by rw [bytesOK_false hlt (by simp [badI, c4])]; rfl)
      simp -dsimp only [h0, h5, h6, hlt, c1, c2, c3, c4, ↓preB, postB, genB, ↓reduceIte, Nat.reduceEqDiff, Int.reduceToNat, Int.reduceLE, Int.reduceLT, Nat.reduceAdd, Nat.reduceLeDiff, intBin, strBin, unD, extractD, lit1, lit2, lit3, keptD, boxR, D.one, D.pub1, D.cells, splice, cutOwn]
      have hk' : badI (byteAt s k) = false := by simp [badI, c1, c2, c3, c4]
      refine ⟨k + 1, ⟨by omega, fun j hj => ?_, wrap64_succ (by omega)⟩, by omega⟩
      rcases Nat.lt_succ_iff_lt_or_eq.1 hj with h | rfl
      · exact hp j h
      · exact hk'
    · simp -dsimp only [h0, h5, h6, Nat.not_lt.2 hge, ↓preB, postB, genB, ↓reduceIte, Nat.reduceEqDiff, Int.reduceToNat, Int.reduceLE, Int.reduceLT, Nat.reduceAdd, Nat.reduceLeDiff, intBin, strBin, unD, extractD, lit1, lit2, lit3, keptD, boxR, D.one, D.pub1, D.cells, splice, cutOwn]
      exact Ret.is (by rw [bytesOK_true (fun j hj => hp j (by omega))]; rfl)

theorem IsSymbol_c (s : ByteArray) : Fn Zs 100 [.str s] (.bool (symOK s)) := by
  refine fn_of (Z := Zs) ok100 fun σ hcl hbl => ?_
  simp -dsimp only [L100, ↓preB, postB, genB, ↓reduceIte, Nat.reduceEqDiff, Int.reduceToNat, Int.reduceLE, Int.reduceLT, Nat.reduceAdd, Nat.reduceLeDiff, intBin, strBin, unD, extractD, lit1, lit2, lit3, keptD, boxR, D.one, D.pub1, D.cells, splice, cutOwn]
  refine pwp_loopG (fun k env s' => k ≤ s.size ∧ (∀ j, j < k → badI (byteAt s j) = false) ∧ s' = σ ∧ env 3 = .int .i64 (k:Nat) ∧ env 0 = .str s) (fun k => s.size - k) 0 ?_ ?_
  · simp [upd_apply, envOf]
  · rintro k env s' ⟨hk, hp, rfl, h3, h0⟩
    rcases Nat.lt_or_ge k s.size with hlt | hge
    · by_cases c1 : byteAt s k < 33
      · simp -dsimp only [h0, h3, hlt, c1, ↓preB, postB, genB, ↓reduceIte, Nat.reduceEqDiff, Int.reduceToNat, Int.reduceLE, Int.reduceLT, Nat.reduceAdd, Nat.reduceLeDiff, intBin, strBin, unD, extractD, lit1, lit2, lit3, keptD, boxR, D.one, D.pub1, D.cells, splice, cutOwn]
        exact fun _ => Ret.is (by rw [symOK, bytesOK_false hlt (by simp [badI, c1])]; rfl)
      by_cases c2 : byteAt s k > 126
      · simp -dsimp only [h0, h3, hlt, c1, c2, ↓preB, postB, genB, ↓reduceIte, Nat.reduceEqDiff, Int.reduceToNat, Int.reduceLE, Int.reduceLT, Nat.reduceAdd, Nat.reduceLeDiff, intBin, strBin, unD, extractD, lit1, lit2, lit3, keptD, boxR, D.one, D.pub1, D.cells, splice, cutOwn]
        exact fun _ => Ret.is (by rw [symOK, bytesOK_false hlt (by simp [badI, c2])]; rfl)
      by_cases c3 : (byteAt s k == 60) = true
      · simp -dsimp only [h0, h3, hlt, c1, c2, c3, ↓preB, postB, genB, ↓reduceIte, Nat.reduceEqDiff, Int.reduceToNat, Int.reduceLE, Int.reduceLT, Nat.reduceAdd, Nat.reduceLeDiff, intBin, strBin, unD, extractD, lit1, lit2, lit3, keptD, boxR, D.one, D.pub1, D.cells, splice, cutOwn]
        exact fun _ => Ret.is (by rw [symOK, bytesOK_false hlt (by simp [badI, c3])]; rfl)
      by_cases c4 : (byteAt s k == 62) = true
      · simp -dsimp only [h0, h3, hlt, c1, c2, c3, c4, ↓preB, postB, genB, ↓reduceIte, Nat.reduceEqDiff, Int.reduceToNat, Int.reduceLE, Int.reduceLT, Nat.reduceAdd, Nat.reduceLeDiff, intBin, strBin, unD, extractD, lit1, lit2, lit3, keptD, boxR, D.one, D.pub1, D.cells, splice, cutOwn]
        exact fun _ => Ret.is (by rw [symOK, bytesOK_false hlt (by simp [badI, c4])]; rfl)
      simp -dsimp only [h0, h3, hlt, c1, c2, c3, c4, ↓preB, postB, genB, ↓reduceIte, Nat.reduceEqDiff, Int.reduceToNat, Int.reduceLE, Int.reduceLT, Nat.reduceAdd, Nat.reduceLeDiff, intBin, strBin, unD, extractD, lit1, lit2, lit3, keptD, boxR, D.one, D.pub1, D.cells, splice, cutOwn]
      intro hbig
      have hk' : badI (byteAt s k) = false := by simp [badI, c1, c2, c3, c4]
      refine ⟨k + 1, ⟨by omega, fun j hj => ?_, wrap64_succ (by omega)⟩, by omega⟩
      rcases Nat.lt_succ_iff_lt_or_eq.1 hj with h | rfl
      · exact hp j h
      · exact hk'
    · have hb := bytesOK_true (fun j hj => hp j (by omega))
      by_cases c1 : (1:Int) ≤ (s.size:Int)
      · simp -dsimp only [h0, h3, Nat.not_lt.2 hge, c1, ↓preB, postB, genB, ↓reduceIte, Nat.reduceEqDiff, Int.reduceToNat, Int.reduceLE, Int.reduceLT, Nat.reduceAdd, Nat.reduceLeDiff, intBin, strBin, unD, extractD, lit1, lit2, lit3, keptD, boxR, D.one, D.pub1, D.cells, splice, cutOwn]
        intros; exact Ret.is (by
          have h1 : 1 ≤ s.size := by omega
          have h2 : decide ((s.size:Int) ≤ 16) = decide (s.size ≤ 16) := by rw [decide_eq_decide]; omega
          simp [symOK, hb, h1, h2])
      · simp -dsimp only [h0, h3, Nat.not_lt.2 hge, c1, ↓preB, postB, genB, ↓reduceIte, Nat.reduceEqDiff, Int.reduceToNat, Int.reduceLE, Int.reduceLT, Nat.reduceAdd, Nat.reduceLeDiff, intBin, strBin, unD, extractD, lit1, lit2, lit3, keptD, boxR, D.one, D.pub1, D.cells, splice, cutOwn]
        intros; exact Ret.is (by simp [symOK, hb]; omega)

theorem isLong_c (s : ByteArray) : Fn Zs 74 [.str s] (.bool (decide (16 < s.size))) := by
  refine fn_of (Z := Zs) ok74 fun σ hcl hbl => ?_
  simp -dsimp only [L74, ↓preB, postB, genB, ↓reduceIte, Nat.reduceEqDiff, Int.reduceToNat, Int.reduceLE, Int.reduceLT, Nat.reduceAdd, Nat.reduceLeDiff, intBin, strBin, unD, extractD, lit1, lit2, lit3, keptD, boxR, D.one, D.pub1, D.cells, splice, cutOwn]
  exact fun _ => Ret.is (by congr 1; simp; omega)
theorem notSym_c (s : ByteArray) : Fn Zs 75 [.str s] (.bool (!(bytesOK s && !(s == ⟨#[]⟩)))) := by
  refine fn_of (Z := Zs) ok75 fun σ hcl hbl => ?_
  simp -dsimp only [L75, ↓preB, postB, genB, ↓reduceIte, Nat.reduceEqDiff, Int.reduceToNat, Int.reduceLE, Int.reduceLT, Nat.reduceAdd, Nat.reduceLeDiff, intBin, strBin, unD, extractD, lit1, lit2, lit3, keptD, boxR, D.one, D.pub1, D.cells, splice, cutOwn]
  refine Fn.use (isSymbol_c s) ?_
  simp -dsimp only [↓preB, postB, genB, ↓reduceIte, Nat.reduceEqDiff, Int.reduceToNat, Int.reduceLE, Int.reduceLT, Nat.reduceAdd, Nat.reduceLeDiff, intBin, strBin, unD, extractD, lit1, lit2, lit3, keptD, boxR, D.one, D.pub1, D.cells, splice, cutOwn]
  exact Ret.is rfl

theorem indexSS_c (w : Wd) (p : ByteArray → Bool) (g : FuncId) (caps : List D) (hp : ∀ x ∈ w, Fn Zs g (.str x :: caps) (.bool (p x))) :
    Fn Zs 101 [encSS w, .func g caps] (.int .i64 (idxOf p w)) := by
  refine fn_of (Z := Zs) ok101 fun σ hcl hbl => ?_
  simp -dsimp only [L101, encSS, ↓preB, postB, genB, ↓reduceIte, Nat.reduceEqDiff, Int.reduceToNat, Int.reduceLE, Int.reduceLT, Nat.reduceAdd, Nat.reduceLeDiff, intBin, strBin, unD, extractD, lit1, lit2, lit3, keptD, boxR, D.one, D.pub1, D.cells, splice, cutOwn]
  intro hbig
  refine pwp_loopG (fun k env s => k ≤ w.length ∧ (∀ j (h : j < w.length), j < k → p w[j] = false) ∧ s = σ ∧ env 8 = .int .i64 (k:Nat) ∧ env 7 = .int .i64 w.length ∧ env 0 = encSS w ∧ env 1 = .func g caps) (fun k => w.length - k) 0 ?_ ?_
  · simp [upd_apply, envOf, encSS]
  · rintro k env s ⟨hk, hp', rfl, h8, h7, h0, h1⟩
    rcases Nat.lt_or_ge k w.length with hlt | hge
    · have hx : w[k]? = some w[k] := List.getElem?_eq_getElem hlt
      simp -dsimp only [h8, h7, h0, h1, encSS, hlt, hx, ↓preB, postB, genB, ↓reduceIte, Nat.reduceEqDiff, Int.reduceToNat, Int.reduceLE, Int.reduceLT, Nat.reduceAdd, Nat.reduceLeDiff, intBin, strBin, unD, extractD, lit1, lit2, lit3, keptD, boxR, D.one, D.pub1, D.cells, splice, cutOwn]
      refine ⟨by omega, Fn.use (hp _ (List.getElem_mem hlt)) ?_⟩
      cases hq : p w[k] <;> simp -dsimp only [h8, h7, h0, h1, hq, ↓preB, postB, genB, ↓reduceIte, Nat.reduceEqDiff, Int.reduceToNat, Int.reduceLE, Int.reduceLT, Nat.reduceAdd, Nat.reduceLeDiff, intBin, strBin, unD, extractD, lit1, lit2, lit3, keptD, boxR, D.one, D.pub1, D.cells, splice, cutOwn]
      · refine ⟨k + 1, ⟨by omega, fun j hj hjk => ?_, wrap64_succ (by omega)⟩, by omega⟩
        rcases Nat.lt_succ_iff_lt_or_eq.1 hjk with h | rfl
        · exact hp' j hj h
        · exact hq
      · refine Ret.is ?_
        have : w.findIdx? p = some k := by
          rw [List.findIdx?_eq_some_iff_getElem]
          exact ⟨hlt, hq, fun j hj => by simp [hp' j (by omega) hj]⟩
        simp [idxOf, this]
    · simp -dsimp only [h8, h7, h0, h1, encSS, Nat.not_lt.2 hge, ↓preB, postB, genB, ↓reduceIte, Nat.reduceEqDiff, Int.reduceToNat, Int.reduceLE, Int.reduceLT, Nat.reduceAdd, Nat.reduceLeDiff, intBin, strBin, unD, extractD, lit1, lit2, lit3, keptD, boxR, D.one, D.pub1, D.cells, splice, cutOwn]
      refine Ret.is ?_
      have : w.findIdx? p = none := by
        rw [List.findIdx?_eq_none_iff]
        intro x hx
        obtain ⟨j, hj, rfl⟩ := List.getElem_of_mem hx
        exact hp' j hj (by omega)
      simp [idxOf, this]

theorem idxOf_any {α : Type} (p : α → Bool) (w : List α) : decide (0 ≤ idxOf p w) = w.any p := by
  unfold idxOf
  cases h : w.findIdx? p with
  | none =>
    rw [List.findIdx?_eq_none_iff] at h
    simp only [show ¬ ((0:Int) ≤ -1) by decide, decide_false]
    symm
    rw [List.any_eq_false]
    exact fun x hx => by simp [h x hx]
  | some i =>
    rw [List.findIdx?_eq_some_iff_getElem] at h
    obtain ⟨h1, h2, _⟩ := h
    simp only [show (0:Int) ≤ (i:Int) by omega, decide_true]
    symm
    rw [List.any_eq_true]
    exact ⟨_, List.getElem_mem h1, h2⟩

theorem containsSS_c (w : Wd) (p : ByteArray → Bool) (g : FuncId) (caps : List D) (hp : ∀ x ∈ w, Fn Zs g (.str x :: caps) (.bool (p x))) :
    Fn Zs 73 [encSS w, .func g caps] (.bool (w.any p)) := by
  refine fn_of (Z := Zs) ok73 fun σ hcl hbl => ?_
  simp -dsimp only [L73, ↓preB, postB, genB, ↓reduceIte, Nat.reduceEqDiff, Int.reduceToNat, Int.reduceLE, Int.reduceLT, Nat.reduceAdd, Nat.reduceLeDiff, intBin, strBin, unD, extractD, lit1, lit2, lit3, keptD, boxR, D.one, D.pub1, D.cells, splice, cutOwn]
  refine Fn.use (indexSS_c w p g caps hp) ?_
  simp -dsimp only [↓preB, postB, genB, ↓reduceIte, Nat.reduceEqDiff, Int.reduceToNat, Int.reduceLE, Int.reduceLT, Nat.reduceAdd, Nat.reduceLeDiff, intBin, strBin, unD, extractD, lit1, lit2, lit3, keptD, boxR, D.one, D.pub1, D.cells, splice, cutOwn]
  exact Ret.is (by rw [← idxOf_any])

/-- What is wrong with a word: nothing (0), a text that is none (1), too much (3). -/
def badW (w : Wd) : Int := if decide (60 < w.length) || w.any (fun s => decide (16 < s.size)) then 3 else if w.any (fun s => !(bytesOK s && !(s == ⟨#[]⟩))) then 1 else 0

theorem symsValidateWord_c (w : Wd) : Fn Zs 49 [encSS w] (.int .i64 (badW w)) := by
  refine fn_of (Z := Zs) ok49 fun σ hcl hbl => ?_
  simp -dsimp only [L49, encSS, ↓preB, postB, genB, ↓reduceIte, Nat.reduceEqDiff, Int.reduceToNat, Int.reduceLE, Int.reduceLT, Nat.reduceAdd, Nat.reduceLeDiff, intBin, strBin, unD, extractD, lit1, lit2, lit3, keptD, boxR, D.one, D.pub1, D.cells, splice, cutOwn]
  intro hbig
  by_cases c1 : (60 : Int) < w.length
  · simp -dsimp only [c1, ↓preB, postB, genB, ↓reduceIte, Nat.reduceEqDiff, Int.reduceToNat, Int.reduceLE, Int.reduceLT, Nat.reduceAdd, Nat.reduceLeDiff, intBin, strBin, unD, extractD, lit1, lit2, lit3, keptD, boxR, D.one, D.pub1, D.cells, splice, cutOwn]
    exact Ret.is (by rw [badW, if_pos (by simp; left; omega)])
  · simp -dsimp only [c1, ↓preB, postB, genB, ↓reduceIte, Nat.reduceEqDiff, Int.reduceToNat, Int.reduceLE, Int.reduceLT, Nat.reduceAdd, Nat.reduceLeDiff, intBin, strBin, unD, extractD, lit1, lit2, lit3, keptD, boxR, D.one, D.pub1, D.cells, splice, cutOwn]
    refine Fn.use (containsSS_c w _ 74 [] (fun x hx => isLong_c x)) ?_
    cases c2 : w.any (fun s => decide (16 < s.size))
    · simp -dsimp only [c1, ↓preB, postB, genB, ↓reduceIte, Nat.reduceEqDiff, Int.reduceToNat, Int.reduceLE, Int.reduceLT, Nat.reduceAdd, Nat.reduceLeDiff, intBin, strBin, unD, extractD, lit1, lit2, lit3, keptD, boxR, D.one, D.pub1, D.cells, splice, cutOwn]
      refine Fn.use (containsSS_c w _ 75 [] (fun x hx => notSym_c x)) ?_
      have h3 : (decide (60 < w.length) || w.any (fun s => decide (16 < s.size))) = false := by rw [c2]; simp; omega
      cases c3 : w.any (fun s => !(bytesOK s && !(s == ⟨#[]⟩))) <;> simp -dsimp only [c1, ↓preB, postB, genB, ↓reduceIte, Nat.reduceEqDiff, Int.reduceToNat, Int.reduceLE, Int.reduceLT, Nat.reduceAdd, Nat.reduceLeDiff, intBin, strBin, unD, extractD, lit1, lit2, lit3, keptD, boxR, D.one, D.pub1, D.cells, splice, cutOwn]
      · exact Ret.is (by rw [badW, h3, c3]; rfl)
      · exact Ret.is (by rw [badW, h3, c3]; rfl)
    · simp -dsimp only [c1, ↓preB, postB, genB, ↓reduceIte, Nat.reduceEqDiff, Int.reduceToNat, Int.reduceLE, Int.reduceLT, Nat.reduceAdd, Nat.reduceLeDiff, intBin, strBin, unD, extractD, lit1, lit2, lit3, keptD, boxR, D.one, D.pub1, D.cells, splice, cutOwn]
      exact Ret.is (by simp [badW, c2])

theorem anyLong_c (w : Wd) : Fn Zs 106 [encSS w] (.bool (w.any (fun s => decide (16 < s.size)))) := by
  refine fn_of (Z := Zs) ok106 fun σ hcl hbl => ?_
  simp -dsimp only [L106, encSS, ↓preB, postB, genB, ↓reduceIte, Nat.reduceEqDiff, Int.reduceToNat, Int.reduceLE, Int.reduceLT, Nat.reduceAdd, Nat.reduceLeDiff, intBin, strBin, unD, extractD, lit1, lit2, lit3, keptD, boxR, D.one, D.pub1, D.cells, splice, cutOwn]
  refine pwp_loopG (fun k env s => k ≤ w.length ∧ (w.drop k).any (fun s => decide (16 < s.size)) = w.any (fun s => decide (16 < s.size)) ∧ s = σ ∧ env 3 = .int .i64 (k:Nat) ∧ env 0 = encSS w) (fun k => w.length - k) 0 ?_ ?_
  · simp [upd_apply, envOf, encSS]
  · rintro k env s ⟨hk, hp, rfl, h3, h0⟩
    rcases Nat.lt_or_ge k w.length with hlt | hge
    · have hx : w[k]? = some w[k] := List.getElem?_eq_getElem hlt
      rw [List.drop_eq_getElem_cons hlt, List.any_cons] at hp
      by_cases c1 : (16 : Int) < (w[k]).size
      · simp -dsimp only [h3, h0, encSS, hlt, hx, c1, ↓preB, postB, genB, ↓reduceIte, Nat.reduceEqDiff, Int.reduceToNat, Int.reduceLE, Int.reduceLT, Nat.reduceAdd, Nat.reduceLeDiff, intBin, strBin, unD, extractD, lit1, lit2, lit3, keptD, boxR, D.one, D.pub1, D.cells, splice, cutOwn]
        intros
        exact ⟨by omega, fun _ => Ret.is (by rw [← hp, show decide (16 < (w[k]).size) = true by simp; omega]; rfl)⟩
      · simp -dsimp only [h3, h0, encSS, hlt, hx, c1, ↓preB, postB, genB, ↓reduceIte, Nat.reduceEqDiff, Int.reduceToNat, Int.reduceLE, Int.reduceLT, Nat.reduceAdd, Nat.reduceLeDiff, intBin, strBin, unD, extractD, lit1, lit2, lit3, keptD, boxR, D.one, D.pub1, D.cells, splice, cutOwn]
        intro hbig
        refine ⟨by omega, fun _ => ⟨k + 1, ⟨by omega, ?_, wrap64_succ (by omega)⟩, by omega⟩⟩
        rw [← hp, show decide (16 < (w[k]).size) = false by simp; omega]; simp
    · simp -dsimp only [h3, h0, encSS, Nat.not_lt.2 hge, ↓preB, postB, genB, ↓reduceIte, Nat.reduceEqDiff, Int.reduceToNat, Int.reduceLE, Int.reduceLT, Nat.reduceAdd, Nat.reduceLeDiff, intBin, strBin, unD, extractD, lit1, lit2, lit3, keptD, boxR, D.one, D.pub1, D.cells, splice, cutOwn]
      intros
      refine Ret.is ?_
      rw [← hp, List.drop_of_length_le hge]; rfl

theorem allSymbols_c (w : Wd) : Fn Zs 107 [encSS w] (.bool (w.all symOK)) := by
  refine fn_of (Z := Zs) ok107 fun σ hcl hbl => ?_
  simp -dsimp only [L107, encSS, ↓preB, postB, genB, ↓reduceIte, Nat.reduceEqDiff, Int.reduceToNat, Int.reduceLE, Int.reduceLT, Nat.reduceAdd, Nat.reduceLeDiff, intBin, strBin, unD, extractD, lit1, lit2, lit3, keptD, boxR, D.one, D.pub1, D.cells, splice, cutOwn]
  refine pwp_loopG (fun k env s => k ≤ w.length ∧ (w.drop k).all symOK = w.all symOK ∧ s = σ ∧ env 3 = .int .i64 (k:Nat) ∧ env 0 = encSS w) (fun k => w.length - k) 0 ?_ ?_
  · simp [upd_apply, envOf, encSS]
  · rintro k env s ⟨hk, hp, rfl, h3, h0⟩
    rcases Nat.lt_or_ge k w.length with hlt | hge
    · have hx : w[k]? = some w[k] := List.getElem?_eq_getElem hlt
      rw [List.drop_eq_getElem_cons hlt, List.all_cons] at hp
      simp -dsimp only [h3, h0, encSS, hlt, hx, ↓preB, postB, genB, ↓reduceIte, Nat.reduceEqDiff, Int.reduceToNat, Int.reduceLE, Int.reduceLT, Nat.reduceAdd, Nat.reduceLeDiff, intBin, strBin, unD, extractD, lit1, lit2, lit3, keptD, boxR, D.one, D.pub1, D.cells, splice, cutOwn]
      intro hbig
      refine ⟨by omega, Fn.use (IsSymbol_c _) ?_⟩
      cases c1 : symOK w[k] <;> simp -dsimp only [h3, h0, encSS, hlt, hx, c1, ↓preB, postB, genB, ↓reduceIte, Nat.reduceEqDiff, Int.reduceToNat, Int.reduceLE, Int.reduceLT, Nat.reduceAdd, Nat.reduceLeDiff, intBin, strBin, unD, extractD, lit1, lit2, lit3, keptD, boxR, D.one, D.pub1, D.cells, splice, cutOwn]
      · exact Ret.is (by rw [← hp, c1]; rfl)
      · refine ⟨k + 1, ⟨by omega, ?_, wrap64_succ (by omega)⟩, by omega⟩
        rw [← hp, c1]; simp
    · simp -dsimp only [h3, h0, encSS, Nat.not_lt.2 hge, ↓preB, postB, genB, ↓reduceIte, Nat.reduceEqDiff, Int.reduceToNat, Int.reduceLE, Int.reduceLT, Nat.reduceAdd, Nat.reduceLeDiff, intBin, strBin, unD, extractD, lit1, lit2, lit3, keptD, boxR, D.one, D.pub1, D.cells, splice, cutOwn]
      intros
      refine Ret.is ?_
      rw [← hp, List.drop_of_length_le hge]; rfl

theorem ba_eq {a b : ByteArray} (h : (a == b) = true) : a = b := by
  cases a with
  | mk a => cases b with
    | mk b =>
      have : (a == b) = true := h
      rw [eq_of_beq this]
theorem bytes_sym {s : ByteArray} (h : ¬ 16 < s.size) : symOK s = (bytesOK s && !(s == ⟨#[]⟩)) := by
  have h1 : decide (s.size ≤ 16) = true := by simp; omega
  have h2 : decide (1 ≤ s.size) = !(s == ⟨#[]⟩) := by
    by_cases h0 : s = ⟨#[]⟩
    · subst h0; rfl
    · have : s.size ≠ 0 := fun hs => h0 (by
        cases s with
        | mk d => congr; exact Array.size_eq_zero_iff.1 hs)
      have h3 : decide (1 ≤ s.size) = true := by simp; omega
      have h5 : (s == (⟨#[]⟩ : ByteArray)) = false := by
        cases hq : (s == (⟨#[]⟩ : ByteArray)) with
        | false => rfl
        | true => exact absurd (ba_eq hq) h0
      rw [h3, h5]; rfl
  rw [symOK, h1, h2, Bool.and_true]

theorem refValidateWord_c (w : Wd) : Fn Zs 82 [encSS w] (.int .i64 (badW w)) := by
  refine fn_of (Z := Zs) ok82 fun σ hcl hbl => ?_
  simp -dsimp only [L82, encSS, ↓preB, postB, genB, ↓reduceIte, Nat.reduceEqDiff, Int.reduceToNat, Int.reduceLE, Int.reduceLT, Nat.reduceAdd, Nat.reduceLeDiff, intBin, strBin, unD, extractD, lit1, lit2, lit3, keptD, boxR, D.one, D.pub1, D.cells, splice, cutOwn]
  intro hbig
  by_cases c1 : (60 : Int) < w.length
  · simp -dsimp only [c1, ↓preB, postB, genB, ↓reduceIte, Nat.reduceEqDiff, Int.reduceToNat, Int.reduceLE, Int.reduceLT, Nat.reduceAdd, Nat.reduceLeDiff, intBin, strBin, unD, extractD, lit1, lit2, lit3, keptD, boxR, D.one, D.pub1, D.cells, splice, cutOwn]
    exact Ret.is (by rw [badW, if_pos (by simp; left; omega)])
  · simp -dsimp only [c1, ↓preB, postB, genB, ↓reduceIte, Nat.reduceEqDiff, Int.reduceToNat, Int.reduceLE, Int.reduceLT, Nat.reduceAdd, Nat.reduceLeDiff, intBin, strBin, unD, extractD, lit1, lit2, lit3, keptD, boxR, D.one, D.pub1, D.cells, splice, cutOwn]
    refine Fn.use (anyLong_c w) ?_
    cases c2 : w.any (fun s => decide (16 < s.size))
    · simp -dsimp only [c1, ↓preB, postB, genB, ↓reduceIte, Nat.reduceEqDiff, Int.reduceToNat, Int.reduceLE, Int.reduceLT, Nat.reduceAdd, Nat.reduceLeDiff, intBin, strBin, unD, extractD, lit1, lit2, lit3, keptD, boxR, D.one, D.pub1, D.cells, splice, cutOwn]
      refine Fn.use (allSymbols_c w) ?_
      have h3 : (decide (60 < w.length) || w.any (fun s => decide (16 < s.size))) = false := by rw [c2]; simp; omega
      have h4 : w.any (fun s => !(bytesOK s && !(s == ⟨#[]⟩))) = !(w.all symOK) := by
        rw [List.any_eq_false] at c2
        rw [← List.not_all_eq_any_not]
        congr 1
        apply Bool.eq_iff_iff.2
        simp only [List.all_eq_true]
        exact ⟨fun h x hx => by rw [bytes_sym (by simpa using c2 x hx)]; exact h x hx, fun h x hx => by rw [← bytes_sym (by simpa using c2 x hx)]; exact h x hx⟩
      cases c3 : w.all symOK <;> simp -dsimp only [c1, ↓preB, postB, genB, ↓reduceIte, Nat.reduceEqDiff, Int.reduceToNat, Int.reduceLE, Int.reduceLT, Nat.reduceAdd, Nat.reduceLeDiff, intBin, strBin, unD, extractD, lit1, lit2, lit3, keptD, boxR, D.one, D.pub1, D.cells, splice, cutOwn]
      · exact Ret.is (by rw [badW, h3, h4, c3]; rfl)
      · exact Ret.is (by rw [badW, h3, h4, c3]; rfl)
    · simp -dsimp only [c1, ↓preB, postB, genB, ↓reduceIte, Nat.reduceEqDiff, Int.reduceToNat, Int.reduceLE, Int.reduceLT, Nat.reduceAdd, Nat.reduceLeDiff, intBin, strBin, unD, extractD, lit1, lit2, lit3, keptD, boxR, D.one, D.pub1, D.cells, splice, cutOwn]
      exact Ret.is (by simp [badW, c2])
end Go.Proofs.YtldlcejlfaogbaaDoor.Vs

/- What the functions on words, one against another, come to. -/
namespace Go.Proofs.YtldlcejlfaogbaaDoor.Vs
set_option linter.unusedVariables false
set_option linter.unusedSimpArgs false
set_option maxRecDepth 20000

def ordW : Wd → Wd → Int
  | [], [] => 0
  | [], _ :: _ => -1
  | _ :: _, [] => 1
  | x :: a, y :: b => if strLt x y then -1 else if x == y then ordW a b else 1
def eqW : Wd → Wd → Bool
  | [], [] => true
  | x :: a, y :: b => (x == y) && eqW a b
  | _, _ => false
def begW : Wd → Wd → Bool
  | _, [] => true
  | [], _ :: _ => false
  | a :: w, x :: xs => (a == x) && begW w xs
def encLL (l : List Wd) : D := .sl .no l.length (l.map encSS)

theorem ba_refl (a : ByteArray) : (a == a) = true := by
  cases a with
  | mk a => exact (beq_self_eq_true a : (a == a) = true)
theorem eqW_iff : ∀ {a b : Wd}, eqW a b = true ↔ a = b
  | [], [] => by simp [eqW]
  | [], _ :: _ => by simp [eqW]
  | _ :: _, [] => by simp [eqW]
  | x :: a, y :: b => by
    simp only [eqW, Bool.and_eq_true, List.cons.injEq, eqW_iff (a := a) (b := b)]
    exact ⟨fun h => ⟨ba_eq h.1, h.2⟩, fun h => ⟨by rw [h.1]; exact ba_refl y, h.2⟩⟩

theorem Words_c (l : List Wd) : Fn Zs 57 [encLL l] (.int .i64 ((l.map badW).find? (fun e => e != 0) |>.getD 0)) := by
  refine fn_of (Z := Zs) ok57 fun σ hcl hbl => ?_
  simp -dsimp only [L57, encLL, ↓preB, postB, genB, ↓reduceIte, Nat.reduceEqDiff, Int.reduceToNat, Int.reduceLE, Int.reduceLT, Nat.reduceAdd, Nat.reduceLeDiff, intBin, strBin, unD, extractD, lit1, lit2, lit3, keptD, boxR, D.one, D.pub1, D.cells, splice, cutOwn]
  refine pwp_loopG (fun k env s => k ≤ l.length ∧ ((l.drop k).map badW).find? (fun e => e != 0) = (l.map badW).find? (fun e => e != 0) ∧ s = σ ∧ env 3 = .int .i64 (k:Nat) ∧ env 0 = encLL l) (fun k => l.length - k) 0 ?_ ?_
  · simp [upd_apply, envOf, encLL]
  · rintro k env s ⟨hk, hp, rfl, h3, h0⟩
    rcases Nat.lt_or_ge k l.length with hlt | hge
    · have hx : l[k]? = some l[k] := List.getElem?_eq_getElem hlt
      rw [List.drop_eq_getElem_cons hlt, List.map_cons, List.find?_cons] at hp
      simp -dsimp only [h3, h0, encLL, hlt, hx, ↓preB, postB, genB, ↓reduceIte, Nat.reduceEqDiff, Int.reduceToNat, Int.reduceLE, Int.reduceLT, Nat.reduceAdd, Nat.reduceLeDiff, intBin, strBin, unD, extractD, lit1, lit2, lit3, keptD, boxR, D.one, D.pub1, D.cells, splice, cutOwn]
      intro hbig
      refine ⟨by omega, Fn.use (refValidateWord_c _) ?_⟩
      by_cases c1 : badW l[k] = 0
      · have c2 : (badW l[k] != 0) = false := by simp [c1]
        simp -dsimp only [h3, h0, encLL, hlt, hx, c2, ↓preB, postB, genB, ↓reduceIte, Nat.reduceEqDiff, Int.reduceToNat, Int.reduceLE, Int.reduceLT, Nat.reduceAdd, Nat.reduceLeDiff, intBin, strBin, unD, extractD, lit1, lit2, lit3, keptD, boxR, D.one, D.pub1, D.cells, splice, cutOwn]
        simp only [c2] at hp
        exact ⟨k + 1, ⟨by omega, hp, wrap64_succ (by omega)⟩, by omega⟩
      · have c2 : (badW l[k] != 0) = true := by simp [c1]
        simp -dsimp only [h3, h0, encLL, hlt, hx, c2, ↓preB, postB, genB, ↓reduceIte, Nat.reduceEqDiff, Int.reduceToNat, Int.reduceLE, Int.reduceLT, Nat.reduceAdd, Nat.reduceLeDiff, intBin, strBin, unD, extractD, lit1, lit2, lit3, keptD, boxR, D.one, D.pub1, D.cells, splice, cutOwn]
        simp only [c2] at hp
        exact Ret.is (by rw [← hp]; rfl)
    · simp -dsimp only [h3, h0, encLL, Nat.not_lt.2 hge, ↓preB, postB, genB, ↓reduceIte, Nat.reduceEqDiff, Int.reduceToNat, Int.reduceLE, Int.reduceLT, Nat.reduceAdd, Nat.reduceLeDiff, intBin, strBin, unD, extractD, lit1, lit2, lit3, keptD, boxR, D.one, D.pub1, D.cells, splice, cutOwn]
      intros
      refine Ret.is ?_
      rw [← hp, List.drop_of_length_le hge]; rfl

theorem isNaN_c (s : ByteArray) : Fn Zs 99 [.str s] (.bool false) := by
  refine fn_of (Z := Zs) ok99 fun σ hcl hbl => ?_
  simp -dsimp only [L99, ↓preB, postB, genB, ↓reduceIte, Nat.reduceEqDiff, Int.reduceToNat, Int.reduceLE, Int.reduceLT, Nat.reduceAdd, Nat.reduceLeDiff, intBin, strBin, unD, extractD, lit1, lit2, lit3, keptD, boxR, D.one, D.pub1, D.cells, splice, cutOwn]
  exact Ret.is (by simp [ba_refl])

def cmpS (x y : ByteArray) : Int := if strLt x y then -1 else if x == y then 0 else 1
theorem cmp_c (x y : ByteArray) : Fn Zs 66 [.str x, .str y] (.int .i64 (cmpS x y)) := by
  refine fn_of (Z := Zs) ok66 fun σ hcl hbl => ?_
  simp -dsimp only [L66, ↓preB, postB, genB, ↓reduceIte, Nat.reduceEqDiff, Int.reduceToNat, Int.reduceLE, Int.reduceLT, Nat.reduceAdd, Nat.reduceLeDiff, intBin, strBin, unD, extractD, lit1, lit2, lit3, keptD, boxR, D.one, D.pub1, D.cells, splice, cutOwn]
  refine Fn.use (isNaN_c x) ?_
  simp -dsimp only [↓preB, postB, genB, ↓reduceIte, Nat.reduceEqDiff, Int.reduceToNat, Int.reduceLE, Int.reduceLT, Nat.reduceAdd, Nat.reduceLeDiff, intBin, strBin, unD, extractD, lit1, lit2, lit3, keptD, boxR, D.one, D.pub1, D.cells, splice, cutOwn]
  refine Fn.use (isNaN_c y) ?_
  cases c1 : strLt x y
  · cases c2 : (x == y)
    · simp -dsimp only [c1, c2, Bool.or_false, ↓preB, postB, genB, ↓reduceIte, Nat.reduceEqDiff, Int.reduceToNat, Int.reduceLE, Int.reduceLT, Nat.reduceAdd, Nat.reduceLeDiff, intBin, strBin, unD, extractD, lit1, lit2, lit3, keptD, boxR, D.one, D.pub1, D.cells, splice, cutOwn]
      exact Ret.is (by simp [cmpS, c1, c2])
    · simp -dsimp only [c1, c2, Bool.or_true, ↓preB, postB, genB, ↓reduceIte, Nat.reduceEqDiff, Int.reduceToNat, Int.reduceLE, Int.reduceLT, Nat.reduceAdd, Nat.reduceLeDiff, intBin, strBin, unD, extractD, lit1, lit2, lit3, keptD, boxR, D.one, D.pub1, D.cells, splice, cutOwn]
      exact Ret.is (by simp [cmpS, c1, c2])
  · simp -dsimp only [c1, ↓preB, postB, genB, ↓reduceIte, Nat.reduceEqDiff, Int.reduceToNat, Int.reduceLE, Int.reduceLT, Nat.reduceAdd, Nat.reduceLeDiff, intBin, strBin, unD, extractD, lit1, lit2, lit3, keptD, boxR, D.one, D.pub1, D.cells, splice, cutOwn]
    exact Ret.is (by simp [cmpS, c1])

theorem ordW_cons {x y : ByteArray} {a b : Wd} : ordW (x :: a) (y :: b) = if cmpS x y = 0 then ordW a b else cmpS x y := by
  unfold cmpS
  simp only [ordW]
  cases strLt x y <;> cases (x == y) <;> simp

theorem Order_c (a b : Wd) : Fn Zs 34 [encSS a, encSS b] (.int .i64 (ordW a b)) := by
  refine fn_of (Z := Zs) ok34 fun σ hcl hbl => ?_
  simp -dsimp only [L34, encSS, ↓preB, postB, genB, ↓reduceIte, Nat.reduceEqDiff, Int.reduceToNat, Int.reduceLE, Int.reduceLT, Nat.reduceAdd, Nat.reduceLeDiff, intBin, strBin, unD, extractD, lit1, lit2, lit3, keptD, boxR, D.one, D.pub1, D.cells, splice, cutOwn]
  refine pwp_loopG (fun k env s => k ≤ a.length ∧ k ≤ b.length ∧ ordW (a.drop k) (b.drop k) = ordW a b ∧ s = σ ∧ env 5 = .int .i64 (k:Nat) ∧ env 0 = encSS a ∧ env 1 = encSS b) (fun k => a.length - k) 0 ?_ ?_
  · simp [upd_apply, envOf, encSS]
  · rintro k env s ⟨hk, hk', hp, rfl, h5, h0, h1⟩
    rcases Nat.lt_or_ge k a.length with hlt | hge
    · rcases Nat.lt_or_ge k b.length with hlt' | hge'
      · have hx : a[k]? = some a[k] := List.getElem?_eq_getElem hlt
        have hy : b[k]? = some b[k] := List.getElem?_eq_getElem hlt'
        rw [List.drop_eq_getElem_cons hlt, List.drop_eq_getElem_cons hlt', ordW_cons] at hp
        simp -dsimp only [h5, h0, h1, encSS, hlt, hlt', ↓preB, postB, genB, ↓reduceIte, Nat.reduceEqDiff, Int.reduceToNat, Int.reduceLE, Int.reduceLT, Nat.reduceAdd, Nat.reduceLeDiff, intBin, strBin, unD, extractD, lit1, lit2, lit3, keptD, boxR, D.one, D.pub1, D.cells, splice, cutOwn]
        intro hb1 hb2
        refine draw_s ?_
        cases c1 : strLt a[k] b[k]
        · simp -dsimp only [h5, h0, h1, encSS, hlt, hlt', hx, hy, c1, ↓preB, postB, genB, ↓reduceIte, Nat.reduceEqDiff, Int.reduceToNat, Int.reduceLE, Int.reduceLT, Nat.reduceAdd, Nat.reduceLeDiff, intBin, strBin, unD, extractD, lit1, lit2, lit3, keptD, boxR, D.one, D.pub1, D.cells, splice, cutOwn]
          refine ⟨by omega, by omega, draw_s ?_⟩
          cases c2 : (a[k] == b[k])
          · simp -dsimp only [h5, h0, h1, encSS, hlt, hlt', hx, hy, c1, c2, Bool.or_false, ↓preB, postB, genB, ↓reduceIte, Nat.reduceEqDiff, Int.reduceToNat, Int.reduceLE, Int.reduceLT, Nat.reduceAdd, Nat.reduceLeDiff, intBin, strBin, unD, extractD, lit1, lit2, lit3, keptD, boxR, D.one, D.pub1, D.cells, splice, cutOwn]
            exact ⟨by omega, by omega, Ret.is (by rw [← hp]; simp [cmpS, c1, c2])⟩
          · simp -dsimp only [h5, h0, h1, encSS, hlt, hlt', hx, hy, c1, c2, Bool.or_true, ↓preB, postB, genB, ↓reduceIte, Nat.reduceEqDiff, Int.reduceToNat, Int.reduceLE, Int.reduceLT, Nat.reduceAdd, Nat.reduceLeDiff, intBin, strBin, unD, extractD, lit1, lit2, lit3, keptD, boxR, D.one, D.pub1, D.cells, splice, cutOwn]
            refine ⟨by omega, by omega, k + 1, ⟨by omega, by omega, ?_, wrap64_succ (by omega)⟩, by omega⟩
            rw [← hp]; simp [cmpS, c1, c2]
        · simp -dsimp only [h5, h0, h1, encSS, hlt, hlt', hx, hy, c1, ↓preB, postB, genB, ↓reduceIte, Nat.reduceEqDiff, Int.reduceToNat, Int.reduceLE, Int.reduceLT, Nat.reduceAdd, Nat.reduceLeDiff, intBin, strBin, unD, extractD, lit1, lit2, lit3, keptD, boxR, D.one, D.pub1, D.cells, splice, cutOwn]
          exact ⟨by omega, by omega, Ret.is (by rw [← hp]; simp [cmpS, c1])⟩
      · have hl : b.length < a.length := by omega
        have hl2 : ¬ a.length < b.length := by omega
        simp -dsimp only [h5, h0, h1, encSS, hlt, Nat.not_lt.2 hge', hl, hl2, ↓preB, postB, genB, ↓reduceIte, Nat.reduceEqDiff, Int.reduceToNat, Int.reduceLE, Int.reduceLT, Nat.reduceAdd, Nat.reduceLeDiff, intBin, strBin, unD, extractD, lit1, lit2, lit3, keptD, boxR, D.one, D.pub1, D.cells, splice, cutOwn]
        intros
        refine Ret.is ?_
        rw [← hp, List.drop_of_length_le hge', List.drop_eq_getElem_cons hlt]; rfl
    · by_cases hl : a.length < b.length
      · simp -dsimp only [h5, h0, h1, encSS, Nat.not_lt.2 hge, hl, ↓preB, postB, genB, ↓reduceIte, Nat.reduceEqDiff, Int.reduceToNat, Int.reduceLE, Int.reduceLT, Nat.reduceAdd, Nat.reduceLeDiff, intBin, strBin, unD, extractD, lit1, lit2, lit3, keptD, boxR, D.one, D.pub1, D.cells, splice, cutOwn]
        intros
        refine Ret.is ?_
        rw [← hp, List.drop_of_length_le hge, List.drop_eq_getElem_cons (by omega : k < b.length)]; rfl
      · have hl2 : ¬ b.length < a.length := by omega
        simp -dsimp only [h5, h0, h1, encSS, Nat.not_lt.2 hge, hl, hl2, ↓preB, postB, genB, ↓reduceIte, Nat.reduceEqDiff, Int.reduceToNat, Int.reduceLE, Int.reduceLT, Nat.reduceAdd, Nat.reduceLeDiff, intBin, strBin, unD, extractD, lit1, lit2, lit3, keptD, boxR, D.one, D.pub1, D.cells, splice, cutOwn]
        intros
        refine Ret.is ?_
        rw [← hp, List.drop_of_length_le hge, List.drop_of_length_le (by omega)]; rfl
end Go.Proofs.YtldlcejlfaogbaaDoor.Vs

/- What the functions on words that begin with others come to. -/
namespace Go.Proofs.YtldlcejlfaogbaaDoor.Vs
set_option linter.unusedVariables false
set_option linter.unusedSimpArgs false
set_option maxRecDepth 20000

theorem bl_irrefl : ∀ l : List UInt8, Op.bytesLess l l = false
  | [] => rfl
  | x :: l => by
    have := bl_irrefl l
    simp [Op.bytesLess, this]
theorem strLt_irrefl (s : ByteArray) : strLt s s = false := bl_irrefl _

theorem ordW_eqW : ∀ (a b : Wd), (ordW a b == 0) = eqW a b
  | [], [] => rfl
  | [], _ :: _ => rfl
  | _ :: _, [] => rfl
  | x :: a, y :: b => by
    have ih := ordW_eqW a b
    simp only [ordW, eqW]
    cases c2 : (x == y)
    · cases c1 : strLt x y <;> simp
    · have := ba_eq c2
      subst this
      simp [strLt_irrefl, ih]

theorem Same_c (a b : Wd) : Fn Zs 15 [encSS a, encSS b] (.bool (eqW a b)) := by
  refine fn_of (Z := Zs) ok15 fun σ hcl hbl => ?_
  simp -dsimp only [L15, ↓preB, postB, genB, ↓reduceIte, Nat.reduceEqDiff, Int.reduceToNat, Int.reduceLE, Int.reduceLT, Nat.reduceAdd, Nat.reduceLeDiff, intBin, strBin, unD, extractD, lit1, lit2, lit3, keptD, boxR, D.one, D.pub1, D.cells, splice, cutOwn]
  refine Fn.use (Order_c a b) ?_
  simp -dsimp only [↓preB, postB, genB, ↓reduceIte, Nat.reduceEqDiff, Int.reduceToNat, Int.reduceLE, Int.reduceLT, Nat.reduceAdd, Nat.reduceLeDiff, intBin, strBin, unD, extractD, lit1, lit2, lit3, keptD, boxR, D.one, D.pub1, D.cells, splice, cutOwn]
  exact Ret.is (by rw [← ordW_eqW])

theorem Compare_c (a b : Wd) : Fn Zs 43 [encSS a, encSS b] (.int .i64 (ordW a b)) := by
  refine fn_of (Z := Zs) ok43 fun σ hcl hbl => ?_
  simp -dsimp only [L43, encSS, ↓preB, postB, genB, ↓reduceIte, Nat.reduceEqDiff, Int.reduceToNat, Int.reduceLE, Int.reduceLT, Nat.reduceAdd, Nat.reduceLeDiff, intBin, strBin, unD, extractD, lit1, lit2, lit3, keptD, boxR, D.one, D.pub1, D.cells, splice, cutOwn]
  intro hbig
  refine pwp_loopG (fun k env s => k ≤ a.length ∧ k ≤ b.length ∧ ordW (a.drop k) (b.drop k) = ordW a b ∧ s = σ ∧ env 11 = .int .i64 (k:Nat) ∧ env 10 = .int .i64 a.length ∧ env 9 = encSS a ∧ env 0 = encSS a ∧ env 1 = encSS b) (fun k => a.length - k) 0 ?_ ?_
  · simp [upd_apply, envOf, encSS]
  · rintro k env s ⟨hk, hk', hp, rfl, h11, h10, h9, h0, h1⟩
    rcases Nat.lt_or_ge k a.length with hlt | hge
    · have hx : a[k]? = some a[k] := List.getElem?_eq_getElem hlt
      rcases Nat.lt_or_ge k b.length with hlt' | hge'
      · have hy : b[k]? = some b[k] := List.getElem?_eq_getElem hlt'
        have hn : ¬ (b.length ≤ k) := by omega
        rw [List.drop_eq_getElem_cons hlt, List.drop_eq_getElem_cons hlt', ordW_cons] at hp
        simp -dsimp only [h11, h10, h9, h0, h1, encSS, hlt, hx, hlt', hy, hn, Int.ofNat_le, ↓preB, postB, genB, ↓reduceIte, Nat.reduceEqDiff, Int.reduceToNat, Int.reduceLE, Int.reduceLT, Nat.reduceAdd, Nat.reduceLeDiff, intBin, strBin, unD, extractD, lit1, lit2, lit3, keptD, boxR, D.one, D.pub1, D.cells, splice, cutOwn]
        refine ⟨by omega, fun hb2 => ⟨by omega, Fn.use (cmp_c _ _) ?_⟩⟩
        by_cases c1 : cmpS a[k] b[k] = 0
        · have c2 : (cmpS a[k] b[k] != 0) = false := by simp [c1]
          simp -dsimp only [h11, h10, h9, h0, h1, encSS, hlt, hx, hlt', hy, hn, c2, ↓preB, postB, genB, ↓reduceIte, Nat.reduceEqDiff, Int.reduceToNat, Int.reduceLE, Int.reduceLT, Nat.reduceAdd, Nat.reduceLeDiff, intBin, strBin, unD, extractD, lit1, lit2, lit3, keptD, boxR, D.one, D.pub1, D.cells, splice, cutOwn]
          rw [if_pos c1] at hp
          exact ⟨k + 1, ⟨by omega, by omega, hp, wrap64_succ (by omega)⟩, by omega⟩
        · have c2 : (cmpS a[k] b[k] != 0) = true := by simp [c1]
          simp -dsimp only [h11, h10, h9, h0, h1, encSS, hlt, hx, hlt', hy, hn, c2, ↓preB, postB, genB, ↓reduceIte, Nat.reduceEqDiff, Int.reduceToNat, Int.reduceLE, Int.reduceLT, Nat.reduceAdd, Nat.reduceLeDiff, intBin, strBin, unD, extractD, lit1, lit2, lit3, keptD, boxR, D.one, D.pub1, D.cells, splice, cutOwn]
          rw [if_neg c1] at hp
          exact Ret.is (by rw [← hp])
      · have hn : b.length ≤ k := by omega
        simp -dsimp only [h11, h10, h9, h0, h1, encSS, hlt, hx, hn, Int.ofNat_le, ↓preB, postB, genB, ↓reduceIte, Nat.reduceEqDiff, Int.reduceToNat, Int.reduceLE, Int.reduceLT, Nat.reduceAdd, Nat.reduceLeDiff, intBin, strBin, unD, extractD, lit1, lit2, lit3, keptD, boxR, D.one, D.pub1, D.cells, splice, cutOwn]
        refine ⟨by omega, fun _ => Ret.is ?_⟩
        rw [← hp, List.drop_of_length_le hge', List.drop_eq_getElem_cons hlt]; rfl
    · by_cases hl : a.length < b.length
      · simp -dsimp only [h11, h10, h9, h0, h1, encSS, Nat.not_lt.2 hge, hl, ↓preB, postB, genB, ↓reduceIte, Nat.reduceEqDiff, Int.reduceToNat, Int.reduceLE, Int.reduceLT, Nat.reduceAdd, Nat.reduceLeDiff, intBin, strBin, unD, extractD, lit1, lit2, lit3, keptD, boxR, D.one, D.pub1, D.cells, splice, cutOwn]
        intros
        refine Ret.is ?_
        rw [← hp, List.drop_of_length_le hge, List.drop_eq_getElem_cons (by omega : k < b.length)]; rfl
      · simp -dsimp only [h11, h10, h9, h0, h1, encSS, Nat.not_lt.2 hge, hl, ↓preB, postB, genB, ↓reduceIte, Nat.reduceEqDiff, Int.reduceToNat, Int.reduceLE, Int.reduceLT, Nat.reduceAdd, Nat.reduceLeDiff, intBin, strBin, unD, extractD, lit1, lit2, lit3, keptD, boxR, D.one, D.pub1, D.cells, splice, cutOwn]
        intros
        refine Ret.is ?_
        rw [← hp, List.drop_of_length_le hge, List.drop_of_length_le (by omega)]; rfl

theorem eqW_len : ∀ {a b : Wd}, a.length ≠ b.length → eqW a b = false
  | [], [], h => absurd rfl h
  | [], _ :: _, _ => rfl
  | _ :: _, [], _ => rfl
  | x :: a, y :: b, h => by simp only [eqW, eqW_len (a := a) (b := b) (by simpa using h), Bool.and_false]

theorem Equal_c (a b : Wd) : Fn Zs 40 [encSS a, encSS b] (.bool (eqW a b)) := by
  refine fn_of (Z := Zs) ok40 fun σ hcl hbl => ?_
  simp -dsimp only [L40, encSS, ↓preB, postB, genB, ↓reduceIte, Nat.reduceEqDiff, Int.reduceToNat, Int.reduceLE, Int.reduceLT, Nat.reduceAdd, Nat.reduceLeDiff, intBin, strBin, unD, extractD, lit1, lit2, lit3, keptD, boxR, D.one, D.pub1, D.cells, splice, cutOwn]
  by_cases hne : a.length = b.length
  · have c0 : ((a.length : Int) != (b.length : Int)) = false := by simp [hne]
    simp -dsimp only [encSS, c0, ↓preB, postB, genB, ↓reduceIte, Nat.reduceEqDiff, Int.reduceToNat, Int.reduceLE, Int.reduceLT, Nat.reduceAdd, Nat.reduceLeDiff, intBin, strBin, unD, extractD, lit1, lit2, lit3, keptD, boxR, D.one, D.pub1, D.cells, splice, cutOwn]
    intro hb1 hb2 hb3
    refine pwp_loopG (fun k env s => k ≤ a.length ∧ eqW (a.drop k) (b.drop k) = eqW a b ∧ s = σ ∧ env 13 = .int .i64 (k:Nat) ∧ env 12 = .int .i64 a.length ∧ env 0 = encSS a ∧ env 1 = encSS b) (fun k => a.length - k) 0 ?_ ?_
    · simp [upd_apply, envOf, encSS]
    · rintro k env s ⟨hk, hp, rfl, h13, h12, h0, h1⟩
      rcases Nat.lt_or_ge k a.length with hlt | hge
      · have hlt' : k < b.length := by omega
        have hx : a[k]? = some a[k] := List.getElem?_eq_getElem hlt
        have hy : b[k]? = some b[k] := List.getElem?_eq_getElem hlt'
        rw [List.drop_eq_getElem_cons hlt, List.drop_eq_getElem_cons hlt', eqW] at hp
        simp -dsimp only [h13, h12, h0, h1, encSS, hlt, hx, hlt', hy, ↓preB, postB, genB, ↓reduceIte, Nat.reduceEqDiff, Int.reduceToNat, Int.reduceLE, Int.reduceLT, Nat.reduceAdd, Nat.reduceLeDiff, intBin, strBin, unD, extractD, lit1, lit2, lit3, keptD, boxR, D.one, D.pub1, D.cells, splice, cutOwn]
        refine draw_s ?_
        cases c1 : (a[k] == b[k])
        · simp -dsimp only [h13, h12, h0, h1, encSS, hlt, hx, hlt', hy, c1, ↓preB, postB, genB, ↓reduceIte, Nat.reduceEqDiff, Int.reduceToNat, Int.reduceLE, Int.reduceLT, Nat.reduceAdd, Nat.reduceLeDiff, intBin, strBin, unD, extractD, lit1, lit2, lit3, keptD, boxR, D.one, D.pub1, D.cells, splice, cutOwn]
          exact ⟨by omega, by omega, Ret.is (by rw [← hp, c1]; rfl)⟩
        · simp -dsimp only [h13, h12, h0, h1, encSS, hlt, hx, hlt', hy, c1, ↓preB, postB, genB, ↓reduceIte, Nat.reduceEqDiff, Int.reduceToNat, Int.reduceLE, Int.reduceLT, Nat.reduceAdd, Nat.reduceLeDiff, intBin, strBin, unD, extractD, lit1, lit2, lit3, keptD, boxR, D.one, D.pub1, D.cells, splice, cutOwn]
          refine ⟨by omega, by omega, k + 1, ⟨by omega, ?_, wrap64_succ (by omega)⟩, by omega⟩
          rw [← hp, c1]; simp
      · simp -dsimp only [h13, h12, h0, h1, encSS, Nat.not_lt.2 hge, ↓preB, postB, genB, ↓reduceIte, Nat.reduceEqDiff, Int.reduceToNat, Int.reduceLE, Int.reduceLT, Nat.reduceAdd, Nat.reduceLeDiff, intBin, strBin, unD, extractD, lit1, lit2, lit3, keptD, boxR, D.one, D.pub1, D.cells, splice, cutOwn]
        refine Ret.is ?_
        rw [← hp, List.drop_of_length_le hge, List.drop_of_length_le (by omega)]; rfl
  · have c0 : ((a.length : Int) != (b.length : Int)) = true := by simp; omega
    simp -dsimp only [encSS, c0, ↓preB, postB, genB, ↓reduceIte, Nat.reduceEqDiff, Int.reduceToNat, Int.reduceLE, Int.reduceLT, Nat.reduceAdd, Nat.reduceLeDiff, intBin, strBin, unD, extractD, lit1, lit2, lit3, keptD, boxR, D.one, D.pub1, D.cells, splice, cutOwn]
    intros
    exact Ret.is (by rw [eqW_len hne])

theorem begW_take : ∀ (w x : Wd), begW w x = (decide (x.length ≤ w.length) && eqW (w.take x.length) x)
  | w, [] => by cases w <;> simp [begW, eqW]
  | [], _ :: _ => by simp [begW]
  | a :: w, x :: xs => by
    simp only [begW, begW_take w xs, List.length_cons, List.take_succ_cons, eqW, Nat.add_le_add_iff_right]
    cases (a == x) <;> cases decide (xs.length ≤ w.length) <;> simp

theorem encSS_take (w : Wd) (n : Nat) (h : n ≤ w.length) : D.sl .no n ((w.map D.str).take n) = encSS (w.take n) := by
  simp only [encSS, List.map_take, List.length_take, Nat.min_eq_left h]

theorem begins_c (w x : Wd) : Fn Zs 70 [encSS w, encSS x] (.bool (begW w x)) := by
  refine fn_of (Z := Zs) ok70 fun σ hcl hbl => ?_
  simp -dsimp only [L70, encSS, ↓preB, postB, genB, ↓reduceIte, Nat.reduceEqDiff, Int.reduceToNat, Int.reduceLE, Int.reduceLT, Nat.reduceAdd, Nat.reduceLeDiff, intBin, strBin, unD, extractD, lit1, lit2, lit3, keptD, boxR, D.one, D.pub1, D.cells, splice, cutOwn]
  by_cases c : x.length ≤ w.length
  · simp -dsimp only [encSS, c, Int.ofNat_le, ↓preB, postB, genB, ↓reduceIte, Nat.reduceEqDiff, Int.reduceToNat, Int.reduceLE, Int.reduceLT, Nat.reduceAdd, Nat.reduceLeDiff, intBin, strBin, unD, extractD, lit1, lit2, lit3, keptD, boxR, D.one, D.pub1, D.cells, splice, cutOwn]
    intros
    rw [Nat.sub_zero, encSS_take w _ c]
    refine ⟨by omega, Fn.use (Equal_c (w.take x.length) x) ?_⟩
    simp -dsimp only [encSS, c, Int.ofNat_le, ↓preB, postB, genB, ↓reduceIte, Nat.reduceEqDiff, Int.reduceToNat, Int.reduceLE, Int.reduceLT, Nat.reduceAdd, Nat.reduceLeDiff, intBin, strBin, unD, extractD, lit1, lit2, lit3, keptD, boxR, D.one, D.pub1, D.cells, splice, cutOwn]
    exact Ret.is (by rw [begW_take]; simp [c])
  · simp -dsimp only [encSS, c, Int.ofNat_le, ↓preB, postB, genB, ↓reduceIte, Nat.reduceEqDiff, Int.reduceToNat, Int.reduceLE, Int.reduceLT, Nat.reduceAdd, Nat.reduceLeDiff, intBin, strBin, unD, extractD, lit1, lit2, lit3, keptD, boxR, D.one, D.pub1, D.cells, splice, cutOwn]
    intros
    exact Ret.is (by rw [begW_take]; simp [c])

theorem refBegins_c (w x : Wd) : Fn Zs 83 [encSS w, encSS x] (.bool (begW w x)) := by
  refine fn_of (Z := Zs) ok83 fun σ hcl hbl => ?_
  simp -dsimp only [L83, encSS, ↓preB, postB, genB, ↓reduceIte, Nat.reduceEqDiff, Int.reduceToNat, Int.reduceLE, Int.reduceLT, Nat.reduceAdd, Nat.reduceLeDiff, intBin, strBin, unD, extractD, lit1, lit2, lit3, keptD, boxR, D.one, D.pub1, D.cells, splice, cutOwn]
  by_cases c : x.length ≤ w.length
  · simp -dsimp only [encSS, c, Int.ofNat_le, ↓preB, postB, genB, ↓reduceIte, Nat.reduceEqDiff, Int.reduceToNat, Int.reduceLE, Int.reduceLT, Nat.reduceAdd, Nat.reduceLeDiff, intBin, strBin, unD, extractD, lit1, lit2, lit3, keptD, boxR, D.one, D.pub1, D.cells, splice, cutOwn]
    intros
    rw [Nat.sub_zero, encSS_take w _ c]
    refine ⟨by omega, Fn.use (Same_c (w.take x.length) x) ?_⟩
    simp -dsimp only [encSS, c, Int.ofNat_le, ↓preB, postB, genB, ↓reduceIte, Nat.reduceEqDiff, Int.reduceToNat, Int.reduceLE, Int.reduceLT, Nat.reduceAdd, Nat.reduceLeDiff, intBin, strBin, unD, extractD, lit1, lit2, lit3, keptD, boxR, D.one, D.pub1, D.cells, splice, cutOwn]
    exact Ret.is (by rw [begW_take]; simp [c])
  · simp -dsimp only [encSS, c, Int.ofNat_le, ↓preB, postB, genB, ↓reduceIte, Nat.reduceEqDiff, Int.reduceToNat, Int.reduceLE, Int.reduceLT, Nat.reduceAdd, Nat.reduceLeDiff, intBin, strBin, unD, extractD, lit1, lit2, lit3, keptD, boxR, D.one, D.pub1, D.cells, splice, cutOwn]
    intros
    exact Ret.is (by rw [begW_take]; simp [c])

structure Sh where
  From : Wd
  To : Wd
def rowsD : List Sh → List D
  | [] => []
  | r :: t => encSS r.From :: encSS r.To :: rowsD t
def encT (t : List Sh) : D := .sl .no t.length (rowsD t)
theorem rowsD_len : ∀ t : List Sh, (rowsD t).length = t.length * 2
  | [] => rfl
  | r :: t => by simp only [rowsD, List.length_cons, rowsD_len t]; omega
theorem rowsD_drop : ∀ (t : List Sh) (k : Nat), (rowsD t).drop (k * 2) = rowsD (t.drop k)
  | t, 0 => by simp
  | [], k + 1 => by simp [rowsD]
  | r :: t, k + 1 => by
    rw [Nat.succ_mul, rowsD]
    simp [rowsD_drop t k]
theorem rowsD_at {t : List Sh} {k : Nat} (h : k < t.length) : (rowsD t).drop (k * 2) = encSS t[k].From :: encSS t[k].To :: rowsD (t.drop (k + 1)) := by
  rw [rowsD_drop, List.drop_eq_getElem_cons h, rowsD]

/-- The row with the longest From that a word begins with. -/
def longer (t : List Sh) (b : Option Nat) (n : Nat) : Bool := match b with | none => true | some j => decide (((t[j]?).map (·.From.length)).getD 0 < n)
def bestI (t : List Sh) (b : Option Nat) (k : Nat) (w : Wd) : Option Nat :=
  match t[k]? with
  | none => b
  | some r => if (begW w r.From && longer t b r.From.length) = true then some k else b
def fitFrom (t : List Sh) (w : Wd) : Nat → Option Nat → Nat → Option Nat
  | 0, b, _ => b
  | n + 1, b, k => fitFrom t w n (bestI t b k w) (k + 1)
def fitW (t : List Sh) (w : Wd) : Option Nat := fitFrom t w t.length none 0
def optI (b : Option Nat) : Int := match b with | some i => i | none => -1
theorem optI_none : optI none = -1 := rfl
theorem optI_some {j : Nat} : optI (some j) = (j : Int) := rfl
theorem neg1 : ((-1 : Int) < 0) = True := by simp
theorem natneg {j : Nat} : ((j : Int) < 0) = False := by simp

theorem row_c (t : List Sh) (w : Wd) : Fn Zs 58 [encT t, encSS w] (.int .i64 (optI (fitW t w))) := by
  refine fn_of (Z := Zs) ok58 fun σ hcl hbl => ?_
  simp -dsimp only [L58, encT, ↓preB, postB, genB, ↓reduceIte, Nat.reduceEqDiff, Int.reduceToNat, Int.reduceLE, Int.reduceLT, Nat.reduceAdd, Nat.reduceLeDiff, intBin, strBin, unD, extractD, lit1, lit2, lit3, keptD, boxR, D.one, D.pub1, D.cells, splice, cutOwn]
  refine pwp_loopG (fun k env s => k ≤ t.length ∧ (∃ b, (∀ j, b = some j → j < k) ∧ env 5 = .int .i64 (optI b) ∧ fitFrom t w (t.length - k) b k = fitW t w) ∧ s = σ ∧ env 6 = .int .i64 (k:Nat) ∧ env 0 = encT t ∧ env 1 = encSS w) (fun k => t.length - k) 0 ?_ ?_
  · simp only [upd_apply, envOf_apply, encT, Nat.reduceEqDiff, if_true, if_false]
    exact ⟨Nat.zero_le _, ⟨none, by simp, rfl, rfl⟩, trivial, rfl, rfl, rfl⟩
  · rintro k env s ⟨hk, ⟨b, hb, h5, hp⟩, rfl, h6, h0, h1⟩
    rcases Nat.lt_or_ge k t.length with hlt | hge
    · have hd := rowsD_at hlt
      have hpos : 0 < (rowsD t).length := by rw [rowsD_len]; omega
      rw [show t.length - k = (t.length - (k + 1)) + 1 by omega, fitFrom] at hp
      have hx : t[k]? = some t[k] := List.getElem?_eq_getElem hlt
      simp -dsimp only [h5, h6, h0, h1, encT, hlt, hd, ↓preB, postB, genB, ↓reduceIte, Nat.reduceEqDiff, Int.reduceToNat, Int.reduceLE, Int.reduceLT, Nat.reduceAdd, Nat.reduceLeDiff, intBin, strBin, unD, extractD, lit1, lit2, lit3, keptD, boxR, D.one, D.pub1, D.cells, splice, cutOwn]
      intro hbig
      refine draw_s ?_
      simp -dsimp only [h5, h6, h0, h1, encT, hlt, hd, ↓preB, postB, genB, ↓reduceIte, Nat.reduceEqDiff, Int.reduceToNat, Int.reduceLE, Int.reduceLT, Nat.reduceAdd, Nat.reduceLeDiff, intBin, strBin, unD, extractD, lit1, lit2, lit3, keptD, boxR, D.one, D.pub1, D.cells, splice, cutOwn]
      refine ⟨hpos, Fn.useS (refBegins_c w _) ?_⟩
      have hnext : ∀ c : Bool, (begW w t[k].From && longer t b t[k].From.length) = c → bestI t b k w = if c = true then some k else b := fun c hc => by
        simp only [bestI, hx, hc]
      cases c1 : begW w t[k].From
      · simp -dsimp only [h5, h6, h0, h1, encT, hlt, hd, ↓preB, postB, genB, ↓reduceIte, Nat.reduceEqDiff, Int.reduceToNat, Int.reduceLE, Int.reduceLT, Nat.reduceAdd, Nat.reduceLeDiff, intBin, strBin, unD, extractD, lit1, lit2, lit3, keptD, boxR, D.one, D.pub1, D.cells, splice, cutOwn]
        rw [hnext false (by rw [c1]; rfl)] at hp
        exact ⟨k + 1, ⟨by omega, ⟨b, fun j hj => by have := hb j hj; omega, rfl, hp⟩, wrap64_succ (by omega)⟩, by omega⟩
      · cases b with
        | none =>
          simp -dsimp only [h5, h6, h0, h1, encT, hlt, hd, optI_none, neg1, ↓preB, postB, genB, ↓reduceIte, Nat.reduceEqDiff, Int.reduceToNat, Int.reduceLE, Int.reduceLT, Nat.reduceAdd, Nat.reduceLeDiff, intBin, strBin, unD, extractD, lit1, lit2, lit3, keptD, boxR, D.one, D.pub1, D.cells, splice, cutOwn]
          rw [hnext true (by rw [c1]; rfl)] at hp
          exact ⟨k + 1, ⟨by omega, ⟨some k, fun j hj => by cases hj; omega, rfl, hp⟩, wrap64_succ (by omega)⟩, by omega⟩
        | some j =>
          have hj := hb j rfl
          have hjt : j < t.length := by omega
          have hdj := rowsD_at hjt
          have hlj : longer t (some j) t[k].From.length = decide (t[j].From.length < t[k].From.length) := by simp [longer, hjt]
          by_cases c2 : t[j].From.length < t[k].From.length
          · simp -dsimp only [h5, h6, h0, h1, encT, encSS, hlt, hjt, hd, hdj, optI_some, natneg, hpos, c2, ↓preB, postB, genB, ↓reduceIte, Nat.reduceEqDiff, Int.reduceToNat, Int.reduceLE, Int.reduceLT, Nat.reduceAdd, Nat.reduceLeDiff, intBin, strBin, unD, extractD, lit1, lit2, lit3, keptD, boxR, D.one, D.pub1, D.cells, splice, cutOwn]
            rw [hnext true (by rw [c1, hlj]; simp [c2])] at hp
            exact ⟨k + 1, ⟨by omega, ⟨some k, fun j hj => by cases hj; omega, rfl, hp⟩, wrap64_succ (by omega)⟩, by omega⟩
          · simp -dsimp only [h5, h6, h0, h1, encT, encSS, hlt, hjt, hd, hdj, optI_some, natneg, hpos, c2, ↓preB, postB, genB, ↓reduceIte, Nat.reduceEqDiff, Int.reduceToNat, Int.reduceLE, Int.reduceLT, Nat.reduceAdd, Nat.reduceLeDiff, intBin, strBin, unD, extractD, lit1, lit2, lit3, keptD, boxR, D.one, D.pub1, D.cells, splice, cutOwn]
            rw [hnext false (by rw [c1, hlj]; simp; omega)] at hp
            exact ⟨k + 1, ⟨by omega, ⟨some j, fun j' hj' => by cases hj'; omega, rfl, hp⟩, wrap64_succ (by omega)⟩, by omega⟩
    · simp -dsimp only [h5, h6, h0, h1, encT, Nat.not_lt.2 hge, ↓preB, postB, genB, ↓reduceIte, Nat.reduceEqDiff, Int.reduceToNat, Int.reduceLE, Int.reduceLT, Nat.reduceAdd, Nat.reduceLeDiff, intBin, strBin, unD, extractD, lit1, lit2, lit3, keptD, boxR, D.one, D.pub1, D.cells, splice, cutOwn]
      intros
      refine Ret.is ?_
      rw [← hp, show t.length - k = 0 by omega]; rfl
end Go.Proofs.YtldlcejlfaogbaaDoor.Vs

/- Small facts on words and rows of numbers. -/
namespace Go.Proofs.YtldlcejlfaogbaaDoor.Vs
set_option linter.unusedVariables false
set_option linter.unusedSimpArgs false
set_option maxRecDepth 20000

theorem encSS_drop (w : Wd) (n : Nat) (h : n ≤ w.length) : D.sl .no (w.length - n) (((w.map D.str).drop n).take (w.length - n)) = encSS (w.drop n) := by
  simp only [encSS, List.map_drop, List.length_drop]
  rw [List.take_of_length_le (by simp)]
theorem pub_SS (w : Wd) : (w.map D.str).map D.pub1 = w.map D.str := by
  rw [List.map_map]; rfl

theorem begW_le {w x : Wd} (h : begW w x = true) : x.length ≤ w.length := by
  rw [begW_take, Bool.and_eq_true] at h
  simpa using h.1

/-- What is written at a place, and how much is gone over. -/
theorem badW_len {w : Wd} (h : badW w = 0) : w.length ≤ 60 := by
  unfold badW at h
  split at h
  · cases h
  · rename_i hc
    simp at hc
    omega
def encI (l : List Int) : D := .sl .no l.length (l.map (.int .i64))

theorem pub_I (c : List Int) : (c.map (D.int .i64)).map D.pub1 = c.map (D.int .i64) := by
  rw [List.map_map]; rfl

def badLL (l : List Wd) : Int := ((l.map badW).find? (fun e => e != 0)).getD 0
theorem badLL_nil : badLL [] = 0 := rfl
theorem badLL_cons (w : Wd) (l : List Wd) : badLL (w :: l) = if badW w != 0 then badW w else badLL l := by
  simp only [badLL, List.map_cons, List.find?_cons]
  cases h : (badW w != 0) <;> simp
theorem badLL_zero : ∀ {l : List Wd}, badLL l = 0 → ∀ w ∈ l, badW w = 0
  | [], _, w, h => by cases h
  | v :: l, h, w, hw => by
    rw [badLL_cons] at h
    cases hb : (badW v != 0) with
    | true => rw [hb] at h; simp only [if_true] at h; rw [h] at hb; simp at hb
    | false =>
      rw [hb] at h
      simp only [Bool.false_eq_true, if_false] at h
      rcases List.mem_cons.1 hw with rfl | hw
      · simpa using hb
      · exact badLL_zero h w hw

theorem encI_nil : encI [] = .sl .no 0 [] := rfl

end Go.Proofs.YtldlcejlfaogbaaDoor.Vs

/- How much there is in a table and a word: some number. -/
namespace Go.Proofs.YtldlcejlfaogbaaDoor.Vs
set_option linter.unusedVariables false
set_option linter.unusedSimpArgs false
set_option maxRecDepth 20000

def bytesIn : Wd → Int → Int
  | [], n => n
  | s :: w, n => if n ≤ 100000 then bytesIn w (IntKind.i64.wrap (n + (s.size : Int))) else n
def bytesF : List Wd → Int → Int
  | [], n => n
  | w :: l, n => if n ≤ 100000 then bytesF l (bytesIn w (IntKind.i64.wrap (n + IntKind.i64.wrap (1 + (w.length : Int))))) else n
theorem bytesIn_big {w : Wd} {n : Int} (h : ¬ n ≤ 100000) : bytesIn w n = n := by
  cases w <;> simp [bytesIn, h]
theorem bytesF_big {l : List Wd} {n : Int} (h : ¬ n ≤ 100000) : bytesF l n = n := by
  cases l <;> simp [bytesF, h]

theorem bytes_c (l : List Wd) : Fn Zs 12 [encLL l] (.int .i64 (bytesF l 0)) := by
  refine fn_of (Z := Zs) ok12 fun σ hcl hbl => ?_
  simp -dsimp only [L12, encLL, ↓preB, postB, genB, ↓reduceIte, Nat.reduceEqDiff, Int.reduceToNat, Int.reduceLE, Int.reduceLT, Nat.reduceAdd, Nat.reduceLeDiff, intBin, strBin, unD, extractD, lit1, lit2, lit3, keptD, boxR, D.one, D.pub1, D.cells, splice, cutOwn]
  refine pwp_loopG (fun k env s => k ≤ l.length ∧ (∃ n, env 3 = .int .i64 n ∧ bytesF (l.drop k) n = bytesF l 0) ∧ s = σ ∧ env 4 = .int .i64 (k:Nat) ∧ env 0 = encLL l) (fun k => l.length - k) 0 ?_ ?_
  · simp [upd_apply, envOf_apply, encLL]
  · rintro k env s ⟨hk, ⟨n, h3, hp⟩, rfl, h4, h0⟩
    rcases Nat.lt_or_ge k l.length with hlt | hge
    · have hx : l[k]? = some l[k] := List.getElem?_eq_getElem hlt
      have hlp : 0 < l.length := by omega
      by_cases hn : n ≤ 100000
      · rw [List.drop_eq_getElem_cons hlt, bytesF, if_pos hn] at hp
        simp -dsimp only [h3, h4, h0, encLL, encSS, hlt, hx, hn, hlp, ↓preB, postB, genB, ↓reduceIte, Nat.reduceEqDiff, Int.reduceToNat, Int.reduceLE, Int.reduceLT, Nat.reduceAdd, Nat.reduceLeDiff, intBin, strBin, unD, extractD, lit1, lit2, lit3, keptD, boxR, D.one, D.pub1, D.cells, splice, cutOwn]
        intro hbig hbig2
        refine pwp_loopG (fun j env' s' => j ≤ l[k].length ∧ (∃ n', env' 3 = .int .i64 n' ∧ bytesIn (l[k].drop j) n' = bytesIn l[k] (IntKind.i64.wrap (n + IntKind.i64.wrap (1 + (l[k].length : Int))))) ∧ s' = s ∧ env' 5 = .int .i64 (j:Nat) ∧ env' 4 = .int .i64 (k:Nat) ∧ env' 0 = encLL l) (fun j => l[k].length - j) 0 ?_ ?_
        · simp [upd_apply, h4, h0]
        · rintro j env' s' ⟨hj, ⟨n', h3, hq⟩, rfl, h5, h4, h0⟩
          rcases Nat.lt_or_ge j l[k].length with hjl | hjl
          · have hy : (l[k])[j]? = some ((l[k])[j]) := List.getElem?_eq_getElem hjl
            have hyp : 0 < l[k].length := by omega
            by_cases hn' : n' ≤ 100000
            · rw [List.drop_eq_getElem_cons hjl, bytesIn, if_pos hn'] at hq
              simp -dsimp only [h3, h4, h5, h0, encLL, encSS, hlt, hx, hn', hlp, hjl, hy, hyp, hbig2, ↓preB, postB, genB, ↓reduceIte, Nat.reduceEqDiff, Int.reduceToNat, Int.reduceLE, Int.reduceLT, Nat.reduceAdd, Nat.reduceLeDiff, intBin, strBin, unD, extractD, lit1, lit2, lit3, keptD, boxR, D.one, D.pub1, D.cells, splice, cutOwn]
              exact fun _ => ⟨j + 1, ⟨by omega, hq, wrap64_succ (by omega)⟩, by omega⟩
            · rw [bytesIn_big hn'] at hq
              simp -dsimp only [h3, h4, h5, h0, encLL, encSS, hlt, hx, hn', hlp, hjl, hy, hyp, hbig2, ↓preB, postB, genB, ↓reduceIte, Nat.reduceEqDiff, Int.reduceToNat, Int.reduceLE, Int.reduceLT, Nat.reduceAdd, Nat.reduceLeDiff, intBin, strBin, unD, extractD, lit1, lit2, lit3, keptD, boxR, D.one, D.pub1, D.cells, splice, cutOwn]
              exact ⟨k + 1, ⟨by omega, by rw [hq]; exact hp, wrap64_succ (by omega)⟩, by omega⟩
          · rw [List.drop_of_length_le hjl, bytesIn] at hq
            simp -dsimp only [h3, h4, h5, h0, encLL, encSS, hlt, hx, hlp, Nat.not_lt.2 hjl, hbig2, ↓preB, postB, genB, ↓reduceIte, Nat.reduceEqDiff, Int.reduceToNat, Int.reduceLE, Int.reduceLT, Nat.reduceAdd, Nat.reduceLeDiff, intBin, strBin, unD, extractD, lit1, lit2, lit3, keptD, boxR, D.one, D.pub1, D.cells, splice, cutOwn]
            exact ⟨k + 1, ⟨by omega, by rw [hq]; exact hp, wrap64_succ (by omega)⟩, by omega⟩
      · rw [bytesF_big hn] at hp
        simp -dsimp only [h3, h4, h0, encLL, encSS, hlt, hx, hn, hlp, ↓preB, postB, genB, ↓reduceIte, Nat.reduceEqDiff, Int.reduceToNat, Int.reduceLE, Int.reduceLT, Nat.reduceAdd, Nat.reduceLeDiff, intBin, strBin, unD, extractD, lit1, lit2, lit3, keptD, boxR, D.one, D.pub1, D.cells, splice, cutOwn]
        intros
        exact Ret.is (by rw [hp])
    · rw [List.drop_of_length_le hge, bytesF] at hp
      simp -dsimp only [h3, h4, h0, encLL, Nat.not_lt.2 hge, ↓preB, postB, genB, ↓reduceIte, Nat.reduceEqDiff, Int.reduceToNat, Int.reduceLE, Int.reduceLT, Nat.reduceAdd, Nat.reduceLeDiff, intBin, strBin, unD, extractD, lit1, lit2, lit3, keptD, boxR, D.one, D.pub1, D.cells, splice, cutOwn]
      intros
      exact Ret.is (by rw [hp])

def overF : List Sh → Int → Int
  | [], n => n
  | r :: t, n => if n ≤ 100000 then overF t (IntKind.i64.wrap (n + bytesF [r.From, r.To] 0)) else n
theorem overF_big {t : List Sh} {n : Int} (h : ¬ n ≤ 100000) : overF t n = n := by
  cases t <;> simp [overF, h]
theorem over_c (t : List Sh) : Fn Zs 7 [encT t] (.bool (decide (100000 < overF t t.length))) := by
  refine fn_of (Z := Zs) ok7 fun σ hcl hbl => ?_
  simp -dsimp only [L7, encT, ↓preB, postB, genB, ↓reduceIte, Nat.reduceEqDiff, Int.reduceToNat, Int.reduceLE, Int.reduceLT, Nat.reduceAdd, Nat.reduceLeDiff, intBin, strBin, unD, extractD, lit1, lit2, lit3, keptD, boxR, D.one, D.pub1, D.cells, splice, cutOwn]
  intro hbig
  refine pwp_loopG (fun k env s => k ≤ t.length ∧ (∃ n, env 3 = .int .i64 n ∧ overF (t.drop k) n = overF t t.length) ∧ s = σ ∧ env 4 = .int .i64 (k:Nat) ∧ env 0 = encT t) (fun k => t.length - k) 0 ?_ ?_
  · simp [upd_apply, envOf_apply, encT]
  · rintro k env s ⟨hk, ⟨n, h3, hp⟩, rfl, h4, h0⟩
    rcases Nat.lt_or_ge k t.length with hlt | hge
    · have hd := rowsD_at hlt
      have hpos : 0 < (rowsD t).length := by rw [rowsD_len]; omega
      by_cases hn : n ≤ 100000
      · rw [List.drop_eq_getElem_cons hlt, overF, if_pos hn] at hp
        simp -dsimp only [h3, h4, h0, encT, hlt, hd, hpos, hn, hbig, ↓preB, postB, genB, ↓reduceIte, Nat.reduceEqDiff, Int.reduceToNat, Int.reduceLE, Int.reduceLT, Nat.reduceAdd, Nat.reduceLeDiff, intBin, strBin, unD, extractD, lit1, lit2, lit3, keptD, boxR, D.one, D.pub1, D.cells, splice, cutOwn]
        refine draw_s ?_
        simp -dsimp only [h3, h4, h0, encT, encSS, hlt, hd, hpos, hn, hbig, ↓preB, postB, genB, ↓reduceIte, Nat.reduceEqDiff, Int.reduceToNat, Int.reduceLE, Int.reduceLT, Nat.reduceAdd, Nat.reduceLeDiff, intBin, strBin, unD, extractD, lit1, lit2, lit3, keptD, boxR, D.one, D.pub1, D.cells, splice, cutOwn]
        refine Fn.useSP (bytes_c [t[k].From, t[k].To]) rfl ?_
        simp -dsimp only [h3, h4, h0, encT, encSS, hlt, hd, hpos, hn, hbig, ↓preB, postB, genB, ↓reduceIte, Nat.reduceEqDiff, Int.reduceToNat, Int.reduceLE, Int.reduceLT, Nat.reduceAdd, Nat.reduceLeDiff, intBin, strBin, unD, extractD, lit1, lit2, lit3, keptD, boxR, D.one, D.pub1, D.cells, splice, cutOwn]
        exact ⟨k + 1, ⟨by omega, hp, wrap64_succ (by omega)⟩, by omega⟩
      · rw [overF_big hn] at hp
        simp -dsimp only [h3, h4, h0, encT, hlt, hd, hpos, hn, hbig, ↓preB, postB, genB, ↓reduceIte, Nat.reduceEqDiff, Int.reduceToNat, Int.reduceLE, Int.reduceLT, Nat.reduceAdd, Nat.reduceLeDiff, intBin, strBin, unD, extractD, lit1, lit2, lit3, keptD, boxR, D.one, D.pub1, D.cells, splice, cutOwn]
        exact Ret.is (by rw [hp])
    · rw [List.drop_of_length_le hge, overF] at hp
      simp -dsimp only [h3, h4, h0, encT, Nat.not_lt.2 hge, hbig, ↓preB, postB, genB, ↓reduceIte, Nat.reduceEqDiff, Int.reduceToNat, Int.reduceLE, Int.reduceLT, Nat.reduceAdd, Nat.reduceLeDiff, intBin, strBin, unD, extractD, lit1, lit2, lit3, keptD, boxR, D.one, D.pub1, D.cells, splice, cutOwn]
      exact Ret.is (by rw [hp])
end Go.Proofs.YtldlcejlfaogbaaDoor.Vs

/- The row that fits, and what a step is. -/
namespace Go.Proofs.YtldlcejlfaogbaaDoor.Vs
set_option linter.unusedVariables false
set_option linter.unusedSimpArgs false
set_option maxRecDepth 20000

theorem fit_c (t : List Sh) (w : Wd) : Fn Zs 78 [encT t, encSS w] (.int .i64 (optI (fitW t w))) := by
  refine fn_of (Z := Zs) ok78 fun σ hcl hbl => ?_
  simp -dsimp only [L78, encT, ↓preB, postB, genB, ↓reduceIte, Nat.reduceEqDiff, Int.reduceToNat, Int.reduceLE, Int.reduceLT, Nat.reduceAdd, Nat.reduceLeDiff, intBin, strBin, unD, extractD, lit1, lit2, lit3, keptD, boxR, D.one, D.pub1, D.cells, splice, cutOwn]
  intro hbig
  refine pwp_loopG (fun k env s => k ≤ t.length ∧ (∃ b, (∀ j, b = some j → j < k) ∧ env 5 = .int .i64 (optI b) ∧ fitFrom t w (t.length - k) b k = fitW t w) ∧ HLe σ s ∧ env 10 = .int .i64 (k:Nat) ∧ env 9 = .int .i64 t.length ∧ env 8 = encT t ∧ env 0 = encT t ∧ env 1 = encSS w) (fun k => t.length - k) 0 ?_ ?_
  · simp only [upd_apply, envOf_apply, encT, Nat.reduceEqDiff, if_true, if_false]
    exact ⟨Nat.zero_le _, ⟨none, by simp, rfl, rfl⟩, HLe.refl σ, rfl, trivial, trivial, rfl, rfl⟩
  · rintro k env s ⟨hk, ⟨b, hb, h5, hp⟩, hH, h10, h9, h8, h0, h1⟩
    rcases Nat.lt_or_ge k t.length with hlt | hge
    · have hd := rowsD_at hlt
      have hpos : 0 < (rowsD t).length := by rw [rowsD_len]; omega
      rw [show t.length - k = (t.length - (k + 1)) + 1 by omega, fitFrom] at hp
      have hx : t[k]? = some t[k] := List.getElem?_eq_getElem hlt
      simp -dsimp only [h5, h10, h9, h8, h0, h1, encT, hlt, hd, hpos, ↓preB, postB, genB, ↓reduceIte, Nat.reduceEqDiff, Int.reduceToNat, Int.reduceLE, Int.reduceLT, Nat.reduceAdd, Nat.reduceLeDiff, intBin, strBin, unD, extractD, lit1, lit2, lit3, keptD, boxR, D.one, D.pub1, D.cells, splice, cutOwn]
      have hH' : ∀ o, HLe σ (s.new o) := fun o => hH.new' o hcl
      refine draw_s ?_
      simp -dsimp only [h5, h10, h9, h8, h0, h1, encT, hlt, hd, hpos, ↓preB, postB, genB, ↓reduceIte, Nat.reduceEqDiff, Int.reduceToNat, Int.reduceLE, Int.reduceLT, Nat.reduceAdd, Nat.reduceLeDiff, intBin, strBin, unD, extractD, lit1, lit2, lit3, keptD, boxR, D.one, D.pub1, D.cells, splice, cutOwn]
      refine Fn.useS (begins_c w _) ?_
      have hnext : ∀ c : Bool, (begW w t[k].From && longer t b t[k].From.length) = c → bestI t b k w = if c = true then some k else b := fun c hc => by
        simp only [bestI, hx, hc]
      cases c1 : begW w t[k].From
      · simp -dsimp only [h5, h10, h9, h8, h0, h1, encT, hlt, hd, hpos, ↓preB, postB, genB, ↓reduceIte, Nat.reduceEqDiff, Int.reduceToNat, Int.reduceLE, Int.reduceLT, Nat.reduceAdd, Nat.reduceLeDiff, intBin, strBin, unD, extractD, lit1, lit2, lit3, keptD, boxR, D.one, D.pub1, D.cells, splice, cutOwn]
        rw [hnext false (by rw [c1]; rfl)] at hp
        exact ⟨k + 1, ⟨by omega, ⟨b, fun j hj => by have := hb j hj; omega, rfl, hp⟩, hH' _, wrap64_succ (by omega)⟩, by omega⟩
      · cases b with
        | none =>
          simp -dsimp only [h5, h10, h9, h8, h0, h1, encT, hlt, hd, hpos, optI_none, neg1, ↓preB, postB, genB, ↓reduceIte, Nat.reduceEqDiff, Int.reduceToNat, Int.reduceLE, Int.reduceLT, Nat.reduceAdd, Nat.reduceLeDiff, intBin, strBin, unD, extractD, lit1, lit2, lit3, keptD, boxR, D.one, D.pub1, D.cells, splice, cutOwn]
          rw [hnext true (by rw [c1]; rfl)] at hp
          exact ⟨k + 1, ⟨by omega, ⟨some k, fun j hj => by cases hj; omega, rfl, hp⟩, hH' _, wrap64_succ (by omega)⟩, by omega⟩
        | some j =>
          have hj := hb j rfl
          have hjt : j < t.length := by omega
          have hdj := rowsD_at hjt
          have hlj : longer t (some j) t[k].From.length = decide (t[j].From.length < t[k].From.length) := by simp [longer, hjt]
          by_cases c2 : t[j].From.length < t[k].From.length
          · simp -dsimp only [h5, h10, h9, h8, h0, h1, encT, encSS, hlt, hjt, hd, hdj, optI_some, natneg, hpos, c2, ↓preB, postB, genB, ↓reduceIte, Nat.reduceEqDiff, Int.reduceToNat, Int.reduceLE, Int.reduceLT, Nat.reduceAdd, Nat.reduceLeDiff, intBin, strBin, unD, extractD, lit1, lit2, lit3, keptD, boxR, D.one, D.pub1, D.cells, splice, cutOwn]
            rw [hnext true (by rw [c1, hlj]; simp [c2])] at hp
            exact ⟨k + 1, ⟨by omega, ⟨some k, fun j hj => by cases hj; omega, rfl, hp⟩, hH' _, wrap64_succ (by omega)⟩, by omega⟩
          · simp -dsimp only [h5, h10, h9, h8, h0, h1, encT, encSS, hlt, hjt, hd, hdj, optI_some, natneg, hpos, c2, ↓preB, postB, genB, ↓reduceIte, Nat.reduceEqDiff, Int.reduceToNat, Int.reduceLE, Int.reduceLT, Nat.reduceAdd, Nat.reduceLeDiff, intBin, strBin, unD, extractD, lit1, lit2, lit3, keptD, boxR, D.one, D.pub1, D.cells, splice, cutOwn]
            rw [hnext false (by rw [c1, hlj]; simp; omega)] at hp
            exact ⟨k + 1, ⟨by omega, ⟨some j, fun j' hj' => by cases hj'; omega, rfl, hp⟩, hH' _, wrap64_succ (by omega)⟩, by omega⟩
    · simp -dsimp only [h5, h10, h9, h8, h0, h1, encT, Nat.not_lt.2 hge, ↓preB, postB, genB, ↓reduceIte, Nat.reduceEqDiff, Int.reduceToNat, Int.reduceLE, Int.reduceLT, Nat.reduceAdd, Nat.reduceLeDiff, intBin, strBin, unD, extractD, lit1, lit2, lit3, keptD, boxR, D.one, D.pub1, D.cells, splice, cutOwn]
      refine Ret.isH hH hcl ?_ (.int _ _)
      rw [← hp, show t.length - k = 0 by omega]; rfl

theorem fitFrom_lt (t : List Sh) (w : Wd) : ∀ (n : Nat) (b : Option Nat) (k : Nat), (∀ j, b = some j → j < t.length) → ∀ j, fitFrom t w n b k = some j → j < t.length
  | 0, b, k, hb, j, h => hb j h
  | n + 1, b, k, hb, j, h => by
    refine fitFrom_lt t w n _ _ (fun i hi => ?_) j h
    unfold bestI at hi
    split at hi
    · exact hb i hi
    · rename_i r hr
      split at hi
      · cases hi; exact (List.getElem?_eq_some_iff.1 hr).1
      · exact hb i hi
theorem fitW_lt {t : List Sh} {w : Wd} {j : Nat} (h : fitW t w = some j) : j < t.length := fitFrom_lt t w _ _ _ (by simp) j h
theorem fitFrom_beg (t : List Sh) (w : Wd) : ∀ (n : Nat) (b : Option Nat) (k : Nat), (∀ j, b = some j → ∃ r, t[j]? = some r ∧ begW w r.From = true) → ∀ j, fitFrom t w n b k = some j → ∃ r, t[j]? = some r ∧ begW w r.From = true
  | 0, b, k, hb, j, h => hb j h
  | n + 1, b, k, hb, j, h => by
    refine fitFrom_beg t w n _ _ (fun i hi => ?_) j h
    unfold bestI at hi
    split at hi
    · exact hb i hi
    · rename_i r hr
      split at hi
      · rename_i hc
        cases hi
        rw [Bool.and_eq_true] at hc
        exact ⟨r, hr, hc.1⟩
      · exact hb i hi
theorem fitW_beg {t : List Sh} {w : Wd} {j : Nat} (h : fitW t w = some j) : ∃ r, t[j]? = some r ∧ begW w r.From = true := fitFrom_beg t w _ _ _ (by simp) j h
def stepTo (t : List Sh) (w : Wd) : Wd := match fitW t w with | none => w.take 1 | some k => ((t[k]?).map (·.To)).getD []
def stepN (t : List Sh) (w : Wd) : Nat := match fitW t w with | none => 1 | some k => ((t[k]?).map (·.From.length)).getD 0

theorem step_c (t : List Sh) (w : Wd) (hw : w ≠ []) : Fn Zs 52 [encT t, encSS w] (.tup [encSS (stepTo t w), .int .i64 (stepN t w), .int .i64 (optI (fitW t w))]) := by
  have hw1 : 1 ≤ w.length := by cases w with | nil => exact absurd rfl hw | cons a l => simp
  refine fn_of (Z := Zs) ok52 fun σ hcl hbl => ?_
  simp -dsimp only [L52, ↓preB, postB, genB, ↓reduceIte, Nat.reduceEqDiff, Int.reduceToNat, Int.reduceLE, Int.reduceLT, Nat.reduceAdd, Nat.reduceLeDiff, intBin, strBin, unD, extractD, lit1, lit2, lit3, keptD, boxR, D.one, D.pub1, D.cells, splice, cutOwn]
  refine Fn.use (fit_c t w) ?_
  cases hf : fitW t w with
  | none =>
    simp -dsimp only [optI_none, neg1, encSS, ↓preB, postB, genB, ↓reduceIte, Nat.reduceEqDiff, Int.reduceToNat, Int.reduceLE, Int.reduceLT, Nat.reduceAdd, Nat.reduceLeDiff, intBin, strBin, unD, extractD, lit1, lit2, lit3, keptD, boxR, D.one, D.pub1, D.cells, splice, cutOwn]
    refine ⟨⟨by omega, by omega⟩, Ret.is ?_⟩
    have e1 : stepTo t w = w.take 1 := by simp [stepTo, hf]
    have e2 : stepN t w = 1 := by simp [stepN, hf]
    rw [e1, e2]
    simp [Nat.min_eq_left hw1]
  | some j =>
    have hj := fitW_lt hf
    have hd := rowsD_at hj
    have hpos : 0 < (rowsD t).length := by rw [rowsD_len]; omega
    simp -dsimp only [optI_some, natneg, encT, hj, hd, hpos, ↓preB, postB, genB, ↓reduceIte, Nat.reduceEqDiff, Int.reduceToNat, Int.reduceLE, Int.reduceLT, Nat.reduceAdd, Nat.reduceLeDiff, intBin, strBin, unD, extractD, lit1, lit2, lit3, keptD, boxR, D.one, D.pub1, D.cells, splice, cutOwn]
    refine draw_s ?_
    simp -dsimp only [optI_some, natneg, encT, encSS, hj, hd, hpos, ↓preB, postB, genB, ↓reduceIte, Nat.reduceEqDiff, Int.reduceToNat, Int.reduceLE, Int.reduceLT, Nat.reduceAdd, Nat.reduceLeDiff, intBin, strBin, unD, extractD, lit1, lit2, lit3, keptD, boxR, D.one, D.pub1, D.cells, splice, cutOwn]
    exact Ret.is (by simp [stepTo, stepN, hf, hj])

/-- A shifted word, and whether it was clean; so many steps at most. -/
def shiftF (t : List Sh) : Nat → Wd → Wd × Bool
  | 0, _ => ([], true)
  | n + 1, w => if w.length = 0 then ([], true) else
    let r := shiftF t n (w.drop (stepN t w))
    (stepTo t w ++ r.1, decide (0 ≤ optI (fitW t w)) && r.2)
def shiftW (t : List Sh) (w : Wd) : Wd × Bool := shiftF t w.length w

theorem stepN_pos {t : List Sh} {w : Wd} (ht : ∀ r ∈ t, r.From ≠ []) (hw : w ≠ []) : 1 ≤ stepN t w ∧ stepN t w ≤ w.length := by
  have hw1 : 1 ≤ w.length := by cases w with | nil => exact absurd rfl hw | cons a l => simp
  unfold stepN
  cases hf : fitW t w with
  | none => exact ⟨Nat.le_refl _, hw1⟩
  | some j =>
    obtain ⟨r, hr, hb⟩ := fitW_beg hf
    have h1 := begW_le hb
    have h2 := ht r (List.mem_of_getElem? hr)
    simp only [hr, Option.map_some, Option.getD_some]
    exact ⟨by cases hq : r.From with | nil => exact absurd hq h2 | cons a l => simp, h1⟩
theorem stepTo_le {t : List Sh} {w : Wd} (ht : ∀ r ∈ t, r.To.length ≤ 60) : (stepTo t w).length ≤ 60 := by
  unfold stepTo
  cases hf : fitW t w with
  | none => simp; omega
  | some j =>
    obtain ⟨r, hr, hb⟩ := fitW_beg hf
    simp only [hr, Option.map_some, Option.getD_some]
    exact ht r (List.mem_of_getElem? hr)

theorem shifted_c (t : List Sh) (w : Wd) (h1 : ∀ r ∈ t, r.From ≠ []) (h2 : ∀ r ∈ t, r.To.length ≤ 60) (h3 : w.length ≤ 1000) : Fn Zs 22 [encT t, encSS w] (.tup [encSS (shiftW t w).1, .bool (shiftW t w).2]) := by
  refine fn_of (Z := Zs) ok22 fun σ hcl hbl => ?_
  simp -dsimp only [L22, encT, ↓preB, postB, genB, ↓reduceIte, Nat.reduceEqDiff, Int.reduceToNat, Int.reduceLE, Int.reduceLT, Nat.reduceAdd, Nat.reduceLeDiff, intBin, strBin, unD, extractD, lit1, lit2, lit3, keptD, boxR, D.one, D.pub1, D.cells, splice, cutOwn]
  refine pwp_loopG (fun (x : Wd × Wd × Bool) env s => (∃ n, x.1.length ≤ n ∧ x.2.1.length + 60 * n ≤ 60 * w.length ∧ x.2.1 ++ (shiftF t n x.1).1 = (shiftW t w).1 ∧ (x.2.2 && (shiftF t n x.1).2) = (shiftW t w).2) ∧ Acc 9 1 σ x.2.1.length (x.2.1.map .str) (env 6) s ∧ env 7 = .bool x.2.2 ∧ env 1 = encSS x.1 ∧ env 0 = encT t) (fun x => x.1.length) (w, [], true) ?_ ?_
  · simp only [upd_apply, envOf_apply, encT, Nat.reduceEqDiff, if_true, if_false]
    exact ⟨⟨w.length, Nat.le_refl _, by simp, rfl, by simp [shiftW]⟩, Acc.nil (HLe.refl _), trivial, rfl, rfl⟩
  · rintro ⟨rest, out, cl⟩ env s ⟨⟨n, hn, hsz, hp1, hp2⟩, hA, h7, h1', h0⟩
    simp only at hn hsz hp1 hp2 hA h7 h1'
    by_cases hr : rest = []
    · have hneg : ¬ (0 : Int) < rest.length := by rw [hr]; simp
      simp -dsimp only [h7, h1', h0, hneg, encSS, encT, ↓preB, postB, genB, ↓reduceIte, Nat.reduceEqDiff, Int.reduceToNat, Int.reduceLE, Int.reduceLT, Nat.reduceAdd, Nat.reduceLeDiff, intBin, strBin, unD, extractD, lit1, lit2, lit3, keptD, boxR, D.one, D.pub1, D.cells, splice, cutOwn]
      intros
      have e0 : shiftF t n rest = ([], true) := by
        cases n with
        | zero => rfl
        | succ n => simp [shiftF, hr]
      rw [e0] at hp1 hp2
      simp only [List.append_nil, Bool.and_true] at hp1 hp2
      rw [← hp1, ← hp2]
      exact Ret.less hA.le hcl (.tup2 hA.told (.refl _)) (.tup2 (.no (bel_strs _)) (.bool _))
    · have hpos : 0 < rest.length := List.length_pos_iff.2 hr
      have hpos' : (0 : Int) < rest.length := by omega
      obtain ⟨hs1, hs2⟩ := stepN_pos h1 hr
      have hst := stepTo_le (t := t) (w := rest) h2
      obtain ⟨n, rfl⟩ : ∃ m, n = m + 1 := ⟨n - 1, by omega⟩
      have hne : ¬ rest.length = 0 := by omega
      simp only [shiftF, hne, if_false] at hp1 hp2
      simp -dsimp only [h7, h1', h0, hpos', encSS, ↓preB, postB, genB, ↓reduceIte, Nat.reduceEqDiff, Int.reduceToNat, Int.reduceLE, Int.reduceLT, Nat.reduceAdd, Nat.reduceLeDiff, intBin, strBin, unD, extractD, lit1, lit2, lit3, keptD, boxR, D.one, D.pub1, D.cells, splice, cutOwn]
      intro hbig
      refine Fn.use (step_c t rest hr) ?_
      simp -dsimp only [h7, h1', h0, hpos', encSS, ↓preB, postB, genB, ↓reduceIte, Nat.reduceEqDiff, Int.reduceToNat, Int.reduceLE, Int.reduceLT, Nat.reduceAdd, Nat.reduceLeDiff, intBin, strBin, unD, extractD, lit1, lit2, lit3, keptD, boxR, D.one, D.pub1, D.cells, splice, cutOwn]
      refine hA.append hcl tz29 rfl tz9 rfl rfl rfl (by decide) (by simp) (fedBy_sl tz29 rfl (by simp)) (by simp only []; omega) (by simp only [big]; omega) fun d' s' hA' => ?_
      have hfin : ∃ y : Wd × Wd × Bool, ((∃ m, y.1.length ≤ m ∧ y.2.1.length + 60 * m ≤ 60 * w.length ∧ y.2.1 ++ (shiftF t m y.1).1 = (shiftW t w).1 ∧ (y.2.2 && (shiftF t m y.1).2) = (shiftW t w).2) ∧
          Acc 9 1 σ y.2.1.length (y.2.1.map .str) d' s' ∧ D.bool (cl && decide (0 ≤ optI (fitW t rest))) = .bool y.2.2 ∧ D.sl .no (rest.length - stepN t rest) (((rest.map D.str).drop (stepN t rest)).take (rest.length - stepN t rest)) = encSS y.1 ∧ encT t = encT t) ∧ y.1.length < rest.length := by
        refine ⟨(rest.drop (stepN t rest), out ++ stepTo t rest, cl && decide (0 ≤ optI (fitW t rest))), ⟨⟨n, ?_, ?_, ?_, ?_⟩, ?_, rfl, ?_, rfl⟩, ?_⟩
        · simp only [List.length_drop]; omega
        · simp only [List.length_append]; omega
        · rw [← hp1, List.append_assoc]
        · rw [← hp2, Bool.and_assoc]
        · simpa using hA'
        · exact encSS_drop rest _ hs2
        · simp only [List.length_drop]; omega
      cases cl
      · simp -dsimp only [h7, h1', h0, hpos', encSS, ↓preB, postB, genB, ↓reduceIte, Nat.reduceEqDiff, Int.reduceToNat, Int.reduceLE, Int.reduceLT, Nat.reduceAdd, Nat.reduceLeDiff, intBin, strBin, unD, extractD, lit1, lit2, lit3, keptD, boxR, D.one, D.pub1, D.cells, splice, cutOwn]
        refine ⟨⟨by omega, by omega⟩, ?_⟩
        obtain ⟨y, ⟨hq, hA2, hb2, he, _⟩, hlt⟩ := hfin
        exact ⟨y, ⟨hq, hA2, by simpa using hb2, he⟩, hlt⟩
      · simp -dsimp only [h7, h1', h0, hpos', encSS, ↓preB, postB, genB, ↓reduceIte, Nat.reduceEqDiff, Int.reduceToNat, Int.reduceLE, Int.reduceLT, Nat.reduceAdd, Nat.reduceLeDiff, intBin, strBin, unD, extractD, lit1, lit2, lit3, keptD, boxR, D.one, D.pub1, D.cells, splice, cutOwn]
        refine ⟨⟨by omega, by omega⟩, ?_⟩
        obtain ⟨y, ⟨hq, hA2, hb2, he, _⟩, hlt⟩ := hfin
        exact ⟨y, ⟨hq, hA2, by simpa using hb2, he⟩, hlt⟩
end Go.Proofs.YtldlcejlfaogbaaDoor.Vs

/- Which tables there are. -/
namespace Go.Proofs.YtldlcejlfaogbaaDoor.Vs
set_option linter.unusedVariables false
set_option linter.unusedSimpArgs false
set_option maxRecDepth 20000

def rowE (r : Sh) : Int := if badW r.From != 0 then badW r.From else badW r.To
def firstE : List Sh → Int
  | [] => 0
  | r :: t => if rowE r != 0 then rowE r else firstE t
def badO (p : Option Wd) (r : Sh) : Bool := r.From.length == 0 || (match p with | none => false | some q => decide (0 ≤ ordW q r.From))
def ordBad : Option Wd → List Sh → Bool
  | _, [] => false
  | p, r :: t => badO p r || ordBad (some r.From) t
def prevF (t : List Sh) (k : Nat) : Option Wd := if k = 0 then none else (t[k - 1]?).map (·.From)
def badT (t : List Sh) : Int := if 24 < t.length then 3 else if firstE t != 0 then firstE t else if ordBad none t then 1 else 0

theorem words2 (r : Sh) : ((([r.From, r.To]).map badW).find? (fun e => e != 0)).getD 0 = rowE r := by
  simp only [List.map_cons, List.map_nil, List.find?_cons, List.find?_nil, rowE]
  cases h1 : (badW r.From != 0)
  · cases h2 : (badW r.To != 0)
    · simp at h2; simp [h2]
    · simp
  · simp
theorem badO_prev {t : List Sh} {k : Nat} (h : k < t.length) (h0 : k ≠ 0) : badO (prevF t k) t[k] = ((t[k].From).length == 0 || decide (0 ≤ ordW (t[k-1]'(by omega)).From t[k].From)) := by
  have : (t[k - 1]?) = some (t[k-1]'(by omega)) := List.getElem?_eq_getElem (by omega)
  simp [badO, prevF, h0, this]
theorem prevF_next {t : List Sh} {k : Nat} (h : k < t.length) : prevF t (k + 1) = some t[k].From := by
  simp [prevF, h]

theorem wrap64_pred {k : Nat} (h : k ≠ 0) (h2 : k ≤ big) : IntKind.i64.wrap ((k : Int) - 1) = ((k - 1 : Nat) : Int) := by
  rw [wrap64_in] <;> simp only [big] at h2 <;> omega
theorem refValidate_c (t : List Sh) : Fn Zs 25 [encT t] (.int .i64 (badT t)) := by
  refine fn_of (Z := Zs) ok25 fun σ hcl hbl => ?_
  simp -dsimp only [L25, encT, ↓preB, postB, genB, ↓reduceIte, Nat.reduceEqDiff, Int.reduceToNat, Int.reduceLE, Int.reduceLT, Nat.reduceAdd, Nat.reduceLeDiff, intBin, strBin, unD, extractD, lit1, lit2, lit3, keptD, boxR, D.one, D.pub1, D.cells, splice, cutOwn]
  intro hbig
  by_cases c0 : (24 : Int) < t.length
  · simp -dsimp only [c0, ↓preB, postB, genB, ↓reduceIte, Nat.reduceEqDiff, Int.reduceToNat, Int.reduceLE, Int.reduceLT, Nat.reduceAdd, Nat.reduceLeDiff, intBin, strBin, unD, extractD, lit1, lit2, lit3, keptD, boxR, D.one, D.pub1, D.cells, splice, cutOwn]
    exact Ret.is (by rw [badT, if_pos (by omega)])
  simp -dsimp only [c0, encT, ↓preB, postB, genB, ↓reduceIte, Nat.reduceEqDiff, Int.reduceToNat, Int.reduceLE, Int.reduceLT, Nat.reduceAdd, Nat.reduceLeDiff, intBin, strBin, unD, extractD, lit1, lit2, lit3, keptD, boxR, D.one, D.pub1, D.cells, splice, cutOwn]
  refine pwp_loopG (fun k env s => k ≤ t.length ∧ firstE (t.drop k) = firstE t ∧ s = σ ∧ env 3 = .int .i64 (k:Nat) ∧ env 0 = encT t) (fun k => t.length - k) 0 ?_ ?_
  · simp [upd_apply, envOf_apply, encT]
  · rintro k env s ⟨hk, hp, rfl, h3, h0⟩
    rcases Nat.lt_or_ge k t.length with hlt | hge
    · have hd := rowsD_at hlt
      have hpos : 0 < (rowsD t).length := by rw [rowsD_len]; omega
      rw [List.drop_eq_getElem_cons hlt, firstE] at hp
      simp -dsimp only [h3, h0, encT, hlt, hd, hpos, hbig, ↓preB, postB, genB, ↓reduceIte, Nat.reduceEqDiff, Int.reduceToNat, Int.reduceLE, Int.reduceLT, Nat.reduceAdd, Nat.reduceLeDiff, intBin, strBin, unD, extractD, lit1, lit2, lit3, keptD, boxR, D.one, D.pub1, D.cells, splice, cutOwn]
      refine draw_t 10 (by decide) ?_
      simp -dsimp only [h3, h0, encT, encSS, hlt, hd, hpos, hbig, ↓preB, postB, genB, ↓reduceIte, Nat.reduceEqDiff, Int.reduceToNat, Int.reduceLE, Int.reduceLT, Nat.reduceAdd, Nat.reduceLeDiff, intBin, strBin, unD, extractD, lit1, lit2, lit3, keptD, boxR, D.one, D.pub1, D.cells, splice, cutOwn]
      refine Fn.useP (Words_c [t[k].From, t[k].To]) rfl ?_
      rw [words2]
      cases c1 : (rowE t[k] != 0)
      · simp -dsimp only [h3, h0, encT, encSS, hlt, hd, hpos, hbig, c1, ↓preB, postB, genB, ↓reduceIte, Nat.reduceEqDiff, Int.reduceToNat, Int.reduceLE, Int.reduceLT, Nat.reduceAdd, Nat.reduceLeDiff, intBin, strBin, unD, extractD, lit1, lit2, lit3, keptD, boxR, D.one, D.pub1, D.cells, splice, cutOwn]
        rw [c1] at hp
        exact ⟨k + 1, ⟨by omega, by simpa using hp, wrap64_succ (by omega)⟩, by omega⟩
      · simp -dsimp only [h3, h0, encT, encSS, hlt, hd, hpos, hbig, c1, ↓preB, postB, genB, ↓reduceIte, Nat.reduceEqDiff, Int.reduceToNat, Int.reduceLE, Int.reduceLT, Nat.reduceAdd, Nat.reduceLeDiff, intBin, strBin, unD, extractD, lit1, lit2, lit3, keptD, boxR, D.one, D.pub1, D.cells, splice, cutOwn]
        rw [c1] at hp
        simp only [if_true] at hp
        exact Ret.is (by rw [badT, if_neg (by omega), ← hp, c1]; rfl)
    · simp -dsimp only [h3, h0, encT, Nat.not_lt.2 hge, hbig, ↓preB, postB, genB, ↓reduceIte, Nat.reduceEqDiff, Int.reduceToNat, Int.reduceLE, Int.reduceLT, Nat.reduceAdd, Nat.reduceLeDiff, intBin, strBin, unD, extractD, lit1, lit2, lit3, keptD, boxR, D.one, D.pub1, D.cells, splice, cutOwn]
      have hfe : firstE t = 0 := by rw [← hp, List.drop_of_length_le hge]; rfl
      refine pwp_loopG (fun k env s' => k ≤ t.length ∧ ordBad (prevF t k) (t.drop k) = ordBad none t ∧ s' = s ∧ env 5 = .int .i64 (k:Nat) ∧ env 0 = encT t) (fun k => t.length - k) 0 ?_ ?_
      · simp [upd_apply, envOf_apply, encT, h0, prevF]
      · rintro k env s ⟨hk, hp, rfl, h5, h0⟩
        rcases Nat.lt_or_ge k t.length with hlt | hge
        · have hd := rowsD_at hlt
          have hpos : 0 < (rowsD t).length := by rw [rowsD_len]; omega
          rw [List.drop_eq_getElem_cons hlt, ordBad, ← prevF_next hlt] at hp
          simp -dsimp only [h5, h0, encT, hlt, hd, hpos, hbig, ↓preB, postB, genB, ↓reduceIte, Nat.reduceEqDiff, Int.reduceToNat, Int.reduceLE, Int.reduceLT, Nat.reduceAdd, Nat.reduceLeDiff, intBin, strBin, unD, extractD, lit1, lit2, lit3, keptD, boxR, D.one, D.pub1, D.cells, splice, cutOwn]
          refine draw_s ?_
          have hdone : badO (prevF t k) t[k] = true → badT t = 1 := fun hb => by
            rw [hb, Bool.true_or] at hp
            rw [badT, if_neg (by omega), hfe, ← hp]; rfl
          have hgo : badO (prevF t k) t[k] = false → ordBad (prevF t (k + 1)) (t.drop (k + 1)) = ordBad none t := fun hb => by
            rw [hb, Bool.false_or] at hp; exact hp
          have c1n : ((t[k].From.length : Int) == 0) = (t[k].From.length == 0) := by
            rw [Bool.eq_iff_iff]; simp
          cases c1 : (t[k].From.length == 0)
          · by_cases ck : k = 0
            · have ckn : ¬ (0 : Int) < k := by omega
              simp -dsimp only [h5, h0, encT, encSS, hlt, hd, hpos, hbig, c1n, c1, ckn, ↓preB, postB, genB, ↓reduceIte, Nat.reduceEqDiff, Int.reduceToNat, Int.reduceLE, Int.reduceLT, Nat.reduceAdd, Nat.reduceLeDiff, intBin, strBin, unD, extractD, lit1, lit2, lit3, keptD, boxR, D.one, D.pub1, D.cells, splice, cutOwn]
              have hb : badO (prevF t k) t[k] = false := by simp [badO, prevF, c1, if_pos ck]
              exact ⟨k + 1, ⟨by omega, hgo hb, wrap64_succ (by omega)⟩, by omega⟩
            · have ckp : (0 : Int) < k := by omega
              have hw : IntKind.i64.wrap ((k : Int) - 1) = ((k - 1 : Nat) : Int) := wrap64_pred (by omega) (by omega)
              have hlt' : k - 1 < t.length := by omega
              have hd' := rowsD_at hlt'
              simp -dsimp only [h5, h0, encT, encSS, hlt, hlt', hd, hd', hpos, hbig, c1n, c1, ckp, hw, ↓preB, postB, genB, ↓reduceIte, Nat.reduceEqDiff, Int.reduceToNat, Int.reduceLE, Int.reduceLT, Nat.reduceAdd, Nat.reduceLeDiff, intBin, strBin, unD, extractD, lit1, lit2, lit3, keptD, boxR, D.one, D.pub1, D.cells, splice, cutOwn]
              refine Fn.useS (Order_c _ _) ?_
              have hb := badO_prev hlt ck
              rw [c1, Bool.false_or] at hb
              by_cases c2 : 0 ≤ ordW (t[k-1]'hlt').From t[k].From
              · simp -dsimp only [h5, h0, encT, encSS, hlt, hlt', hd, hd', hpos, hbig, c1n, c1, ckp, hw, c2, ↓preB, postB, genB, ↓reduceIte, Nat.reduceEqDiff, Int.reduceToNat, Int.reduceLE, Int.reduceLT, Nat.reduceAdd, Nat.reduceLeDiff, intBin, strBin, unD, extractD, lit1, lit2, lit3, keptD, boxR, D.one, D.pub1, D.cells, splice, cutOwn]
                exact Ret.is (by rw [hdone (by rw [hb]; simpa using c2)])
              · simp -dsimp only [h5, h0, encT, encSS, hlt, hlt', hd, hd', hpos, hbig, c1n, c1, ckp, hw, c2, ↓preB, postB, genB, ↓reduceIte, Nat.reduceEqDiff, Int.reduceToNat, Int.reduceLE, Int.reduceLT, Nat.reduceAdd, Nat.reduceLeDiff, intBin, strBin, unD, extractD, lit1, lit2, lit3, keptD, boxR, D.one, D.pub1, D.cells, splice, cutOwn]
                exact ⟨k + 1, ⟨by omega, hgo (by rw [hb]; simpa using c2), wrap64_succ (by omega)⟩, by omega⟩
          · simp -dsimp only [h5, h0, encT, encSS, hlt, hd, hpos, hbig, c1n, c1, ↓preB, postB, genB, ↓reduceIte, Nat.reduceEqDiff, Int.reduceToNat, Int.reduceLE, Int.reduceLT, Nat.reduceAdd, Nat.reduceLeDiff, intBin, strBin, unD, extractD, lit1, lit2, lit3, keptD, boxR, D.one, D.pub1, D.cells, splice, cutOwn]
            exact Ret.is (by rw [hdone (by simp only [badO, c1, Bool.true_or])])
        · simp -dsimp only [h5, h0, encT, Nat.not_lt.2 hge, hbig, ↓preB, postB, genB, ↓reduceIte, Nat.reduceEqDiff, Int.reduceToNat, Int.reduceLE, Int.reduceLT, Nat.reduceAdd, Nat.reduceLeDiff, intBin, strBin, unD, extractD, lit1, lit2, lit3, keptD, boxR, D.one, D.pub1, D.cells, splice, cutOwn]
          refine Ret.is ?_
          rw [badT, if_neg (by omega), hfe, ← hp, List.drop_of_length_le hge]; rfl
end Go.Proofs.YtldlcejlfaogbaaDoor.Vs

/- Which tables there are, by the program. -/
namespace Go.Proofs.YtldlcejlfaogbaaDoor.Vs
set_option linter.unusedVariables false
set_option linter.unusedSimpArgs false
set_option maxRecDepth 20000

theorem validate_c (t : List Sh) : Fn Zs 20 [encT t] (.int .i64 (badT t)) := by
  refine fn_of (Z := Zs) ok20 fun σ hcl hbl => ?_
  simp -dsimp only [L20, encT, ↓preB, postB, genB, ↓reduceIte, Nat.reduceEqDiff, Int.reduceToNat, Int.reduceLE, Int.reduceLT, Nat.reduceAdd, Nat.reduceLeDiff, intBin, strBin, unD, extractD, lit1, lit2, lit3, keptD, boxR, D.one, D.pub1, D.cells, splice, cutOwn]
  intro hbig
  by_cases c0 : (24 : Int) < t.length
  · simp -dsimp only [c0, ↓preB, postB, genB, ↓reduceIte, Nat.reduceEqDiff, Int.reduceToNat, Int.reduceLE, Int.reduceLT, Nat.reduceAdd, Nat.reduceLeDiff, intBin, strBin, unD, extractD, lit1, lit2, lit3, keptD, boxR, D.one, D.pub1, D.cells, splice, cutOwn]
    exact Ret.is (by rw [badT, if_pos (by omega)])
  simp -dsimp only [c0, encT, hbig, ↓preB, postB, genB, ↓reduceIte, Nat.reduceEqDiff, Int.reduceToNat, Int.reduceLE, Int.reduceLT, Nat.reduceAdd, Nat.reduceLeDiff, intBin, strBin, unD, extractD, lit1, lit2, lit3, keptD, boxR, D.one, D.pub1, D.cells, splice, cutOwn]
  refine pwp_loopG (fun k env s => k ≤ t.length ∧ firstE (t.drop k) = firstE t ∧ HLe σ s ∧ env 15 = .int .i64 (k:Nat) ∧ env 14 = .int .i64 t.length ∧ env 13 = encT t ∧ env 0 = encT t) (fun k => t.length - k) 0 ?_ ?_
  · simp [upd_apply, envOf_apply, encT, HLe.refl]
  · rintro k env s ⟨hk, hp, hH, h15, h14, h13, h0⟩
    rcases Nat.lt_or_ge k t.length with hlt | hge
    · have hd := rowsD_at hlt
      have hpos : 0 < (rowsD t).length := by rw [rowsD_len]; omega
      rw [List.drop_eq_getElem_cons hlt, firstE] at hp
      simp -dsimp only [h15, h14, h13, h0, encT, encSS, hlt, hd, hpos, hbig, ↓preB, postB, genB, ↓reduceIte, Nat.reduceEqDiff, Int.reduceToNat, Int.reduceLE, Int.reduceLT, Nat.reduceAdd, Nat.reduceLeDiff, intBin, strBin, unD, extractD, lit1, lit2, lit3, keptD, boxR, D.one, D.pub1, D.cells, splice, cutOwn]
      intro hb2
      have hH1 : ∀ o, HLe σ (s.new o) := fun o => hH.new' o hcl
      obtain ⟨l2, hl2⟩ : ∃ l : List Wd, l = [t[k].From, t[k].To] := ⟨_, rfl⟩
      have hlen : l2.length = 2 := by rw [hl2]; rfl
      have hmap : l2.map encSS = [encSS t[k].From, encSS t[k].To] := by rw [hl2]; rfl
      have hrow : ((l2.map badW).find? (fun e => e != 0)).getD 0 = rowE t[k] := by rw [hl2, words2]
      refine pwp_loopG (fun j env' s' => j ≤ 2 ∧ (((l2.drop j).map badW).find? (fun e => e != 0)).getD 0 = rowE t[k] ∧ HLe σ s' ∧ env' 25 = .int .i64 (j:Nat) ∧ env' 24 = .int .i64 2 ∧ env' 23 = .sl .full 2 (l2.map encSS) ∧ env' 15 = .int .i64 (k:Nat) ∧ env' 14 = .int .i64 t.length ∧ env' 13 = encT t ∧ env' 0 = encT t) (fun j => 2 - j) 0 ?_ ?_
      · simp only [upd_apply, Nat.reduceEqDiff, if_true, if_false, h15, h14, h13, h0, hmap]
        exact ⟨by omega, by simpa using hrow, hH1 _, rfl, rfl, rfl, trivial, trivial, trivial, trivial⟩
      · rintro j env' s' ⟨hj, hq, hH', h25, h24, h23, h15, h14, h13, h0⟩
        rcases Nat.lt_or_ge j 2 with hj2 | hj2
        · have hjl : j < l2.length := by omega
          have hx : l2[j]? = some l2[j] := List.getElem?_eq_getElem hjl
          have hj2' : (j : Int) < 2 := by omega
          rw [List.drop_eq_getElem_cons hjl, List.map_cons, List.find?_cons] at hq
          have hlp : 0 < l2.length := by omega
          simp -dsimp only [h25, h24, h23, h15, h14, h13, h0, hj2', hx, hlp, ↓preB, postB, genB, ↓reduceIte, Nat.reduceEqDiff, Int.reduceToNat, Int.reduceLE, Int.reduceLT, Nat.reduceAdd, Nat.reduceLeDiff, intBin, strBin, unD, extractD, lit1, lit2, lit3, keptD, boxR, D.one, D.pub1, D.cells, splice, cutOwn]
          refine ⟨hj2, Fn.use (symsValidateWord_c _) ?_⟩
          cases c1 : (badW l2[j] != 0)
          · simp -dsimp only [h25, h24, h23, h15, h14, h13, h0, hj2', hx, hlp, c1, ↓preB, postB, genB, ↓reduceIte, Nat.reduceEqDiff, Int.reduceToNat, Int.reduceLE, Int.reduceLT, Nat.reduceAdd, Nat.reduceLeDiff, intBin, strBin, unD, extractD, lit1, lit2, lit3, keptD, boxR, D.one, D.pub1, D.cells, splice, cutOwn]
            rw [c1] at hq
            exact ⟨j + 1, ⟨by omega, hq, hH', wrap64_succ (by simp only [big]; omega)⟩, by omega⟩
          · simp -dsimp only [h25, h24, h23, h15, h14, h13, h0, hj2', hx, hlp, c1, ↓preB, postB, genB, ↓reduceIte, Nat.reduceEqDiff, Int.reduceToNat, Int.reduceLE, Int.reduceLT, Nat.reduceAdd, Nat.reduceLeDiff, intBin, strBin, unD, extractD, lit1, lit2, lit3, keptD, boxR, D.one, D.pub1, D.cells, splice, cutOwn]
            rw [c1] at hq
            simp only [Option.getD_some] at hq
            refine Ret.isH hH' hcl ?_ (.int _ _)
            have e1 : (rowE t[k] != 0) = true := by rw [← hq]; exact c1
            rw [e1] at hp
            simp only [if_true] at hp
            rw [badT, if_neg (by omega), ← hp, e1, hq]; rfl
        · have hj2' : ¬ (j : Int) < 2 := by omega
          simp -dsimp only [h25, h24, h23, h15, h14, h13, h0, hj2', ↓preB, postB, genB, ↓reduceIte, Nat.reduceEqDiff, Int.reduceToNat, Int.reduceLE, Int.reduceLT, Nat.reduceAdd, Nat.reduceLeDiff, intBin, strBin, unD, extractD, lit1, lit2, lit3, keptD, boxR, D.one, D.pub1, D.cells, splice, cutOwn]
          have e0 : rowE t[k] = 0 := by
            rw [← hq, List.drop_of_length_le (by omega)]; rfl
          rw [e0] at hp
          exact ⟨k + 1, ⟨by omega, by simpa using hp, hH', wrap64_succ (by omega)⟩, by omega⟩
    · simp -dsimp only [h15, h14, h13, h0, encT, Nat.not_lt.2 hge, hbig, ↓preB, postB, genB, ↓reduceIte, Nat.reduceEqDiff, Int.reduceToNat, Int.reduceLE, Int.reduceLT, Nat.reduceAdd, Nat.reduceLeDiff, intBin, strBin, unD, extractD, lit1, lit2, lit3, keptD, boxR, D.one, D.pub1, D.cells, splice, cutOwn]
      have hfe : firstE t = 0 := by rw [← hp, List.drop_of_length_le hge]; rfl
      refine pwp_loopG (fun k env s' => k ≤ t.length ∧ ordBad (prevF t k) (t.drop k) = ordBad none t ∧ HLe σ s' ∧ env 38 = .int .i64 (k:Nat) ∧ env 37 = .int .i64 t.length ∧ env 36 = encT t ∧ env 0 = encT t) (fun k => t.length - k) 0 ?_ ?_
      · simp only [upd_apply, Nat.reduceEqDiff, if_true, if_false, h0]
        exact ⟨by omega, by simp [prevF], hH, rfl, trivial, rfl, trivial⟩
      · rintro k env s ⟨hk, hp, hH, h38, h37, h36, h0⟩
        rcases Nat.lt_or_ge k t.length with hlt | hge
        · have hd := rowsD_at hlt
          have hpos : 0 < (rowsD t).length := by rw [rowsD_len]; omega
          rw [List.drop_eq_getElem_cons hlt, ordBad, ← prevF_next hlt] at hp
          simp -dsimp only [h38, h37, h36, h0, encT, hlt, hd, hpos, hbig, ↓preB, postB, genB, ↓reduceIte, Nat.reduceEqDiff, Int.reduceToNat, Int.reduceLE, Int.reduceLT, Nat.reduceAdd, Nat.reduceLeDiff, intBin, strBin, unD, extractD, lit1, lit2, lit3, keptD, boxR, D.one, D.pub1, D.cells, splice, cutOwn]
          have hH1 : ∀ o, HLe σ (s.new o) := fun o => hH.new' o hcl
          refine draw_s ?_
          have hdone : badO (prevF t k) t[k] = true → badT t = 1 := fun hb => by
            rw [hb, Bool.true_or] at hp
            rw [badT, if_neg (by omega), hfe, ← hp]; rfl
          have hgo : badO (prevF t k) t[k] = false → ordBad (prevF t (k + 1)) (t.drop (k + 1)) = ordBad none t := fun hb => by
            rw [hb, Bool.false_or] at hp; exact hp
          have c1n : ((t[k].From.length : Int) == 0) = (t[k].From.length == 0) := by
            rw [Bool.eq_iff_iff]; simp
          cases c1 : (t[k].From.length == 0)
          · by_cases ck : k = 0
            · have ckn : ¬ (0 : Int) < k := by omega
              simp -dsimp only [h38, h37, h36, h0, encT, encSS, hlt, hd, hpos, hbig, c1n, c1, ckn, ↓preB, postB, genB, ↓reduceIte, Nat.reduceEqDiff, Int.reduceToNat, Int.reduceLE, Int.reduceLT, Nat.reduceAdd, Nat.reduceLeDiff, intBin, strBin, unD, extractD, lit1, lit2, lit3, keptD, boxR, D.one, D.pub1, D.cells, splice, cutOwn]
              have hb : badO (prevF t k) t[k] = false := by simp [badO, prevF, c1, if_pos ck]
              exact ⟨k + 1, ⟨by omega, hgo hb, hH1 _, wrap64_succ (by omega)⟩, by omega⟩
            · have ckp : (0 : Int) < k := by omega
              have hw : IntKind.i64.wrap ((k : Int) - 1) = ((k - 1 : Nat) : Int) := wrap64_pred (by omega) (by omega)
              have hlt' : k - 1 < t.length := by omega
              have hd' := rowsD_at hlt'
              simp -dsimp only [h38, h37, h36, h0, encT, encSS, hlt, hlt', hd, hd', hpos, hbig, c1n, c1, ckp, hw, ↓preB, postB, genB, ↓reduceIte, Nat.reduceEqDiff, Int.reduceToNat, Int.reduceLE, Int.reduceLT, Nat.reduceAdd, Nat.reduceLeDiff, intBin, strBin, unD, extractD, lit1, lit2, lit3, keptD, boxR, D.one, D.pub1, D.cells, splice, cutOwn]
              refine Fn.useS (Compare_c _ _) ?_
              have hb := badO_prev hlt ck
              rw [c1, Bool.false_or] at hb
              by_cases c2 : 0 ≤ ordW (t[k-1]'hlt').From t[k].From
              · simp -dsimp only [h38, h37, h36, h0, encT, encSS, hlt, hlt', hd, hd', hpos, hbig, c1n, c1, ckp, hw, c2, ↓preB, postB, genB, ↓reduceIte, Nat.reduceEqDiff, Int.reduceToNat, Int.reduceLE, Int.reduceLT, Nat.reduceAdd, Nat.reduceLeDiff, intBin, strBin, unD, extractD, lit1, lit2, lit3, keptD, boxR, D.one, D.pub1, D.cells, splice, cutOwn]
                exact Ret.isH (hH1 _) hcl (by rw [hdone (by rw [hb]; simpa using c2)]) (.int _ _)
              · simp -dsimp only [h38, h37, h36, h0, encT, encSS, hlt, hlt', hd, hd', hpos, hbig, c1n, c1, ckp, hw, c2, ↓preB, postB, genB, ↓reduceIte, Nat.reduceEqDiff, Int.reduceToNat, Int.reduceLE, Int.reduceLT, Nat.reduceAdd, Nat.reduceLeDiff, intBin, strBin, unD, extractD, lit1, lit2, lit3, keptD, boxR, D.one, D.pub1, D.cells, splice, cutOwn]
                exact ⟨k + 1, ⟨by omega, hgo (by rw [hb]; simpa using c2), hH1 _, wrap64_succ (by omega)⟩, by omega⟩
          · simp -dsimp only [h38, h37, h36, h0, encT, encSS, hlt, hd, hpos, hbig, c1n, c1, ↓preB, postB, genB, ↓reduceIte, Nat.reduceEqDiff, Int.reduceToNat, Int.reduceLE, Int.reduceLT, Nat.reduceAdd, Nat.reduceLeDiff, intBin, strBin, unD, extractD, lit1, lit2, lit3, keptD, boxR, D.one, D.pub1, D.cells, splice, cutOwn]
            exact Ret.isH (hH1 _) hcl (by rw [hdone (by simp only [badO, c1, Bool.true_or])]) (.int _ _)
        · simp -dsimp only [h38, h37, h36, h0, encT, Nat.not_lt.2 hge, hbig, ↓preB, postB, genB, ↓reduceIte, Nat.reduceEqDiff, Int.reduceToNat, Int.reduceLE, Int.reduceLT, Nat.reduceAdd, Nat.reduceLeDiff, intBin, strBin, unD, extractD, lit1, lit2, lit3, keptD, boxR, D.one, D.pub1, D.cells, splice, cutOwn]
          refine Ret.isH hH hcl ?_ (.int _ _)
          rw [badT, if_neg (by omega), hfe, ← hp, List.drop_of_length_le hge]; rfl
end Go.Proofs.YtldlcejlfaogbaaDoor.Vs

/- The shifted word and whether a word is clean, by the program. -/
namespace Go.Proofs.YtldlcejlfaogbaaDoor.Vs
set_option linter.unusedVariables false
set_option linter.unusedSimpArgs false
set_option maxRecDepth 20000

def errTW (t : List Sh) (w : Wd) : Int := if badT t != 0 then badT t else badW w
theorem firstE_zero : ∀ {t : List Sh}, firstE t = 0 → ∀ r ∈ t, badW r.From = 0 ∧ badW r.To = 0
  | [], _, r, hr => by cases hr
  | q :: t, h, r, hr => by
    simp only [firstE] at h
    cases c : (rowE q != 0)
    · rw [c] at h
      simp only [Bool.false_eq_true, if_false] at h
      rcases List.mem_cons.1 hr with rfl | hr
      · simp at c
        unfold rowE at c
        cases c2 : (badW r.From != 0)
        · rw [c2] at c; simp at c c2; exact ⟨c2, c⟩
        · rw [c2] at c; simp at c c2; exact absurd c c2
      · exact firstE_zero h r hr
    · rw [c] at h
      simp only [if_true] at h
      rw [h] at c; simp at c
theorem ordBad_false : ∀ {t : List Sh} {p : Option Wd}, ordBad p t = false → ∀ r ∈ t, r.From ≠ []
  | [], _, _, r, hr => by cases hr
  | q :: t, p, h, r, hr => by
    simp only [ordBad, badO, Bool.or_eq_false_iff] at h
    rcases List.mem_cons.1 hr with rfl | hr
    · intro he
      have := h.1.1
      rw [he] at this
      simp at this
    · exact ordBad_false h.2 r hr
theorem badT_zero {t : List Sh} (h : badT t = 0) : t.length ≤ 24 ∧ firstE t = 0 ∧ ordBad none t = false := by
  unfold badT at h
  split at h
  · cases h
  · rename_i hl
    cases c : (firstE t != 0)
    · rw [c] at h
      simp only [Bool.false_eq_true, if_false] at h
      simp at c
      refine ⟨by omega, c, ?_⟩
      cases c2 : ordBad none t
      · rfl
      · rw [c2] at h; cases h
    · rw [c] at h
      simp only [if_true] at h
      rw [h] at c; simp at c
theorem table_ok {t : List Sh} (h : badT t = 0) : (∀ r ∈ t, r.From ≠ []) ∧ ∀ r ∈ t, r.To.length ≤ 60 := by
  obtain ⟨_, h1, h2⟩ := badT_zero h
  exact ⟨ordBad_false h2, fun r hr => badW_len (firstE_zero h1 r hr).2⟩

theorem checked_c (t : List Sh) (w : Wd) : Fn Zs 33 [encT t, encSS w] (.int .i64 (errTW t w)) := by
  refine fn_of (Z := Zs) ok33 fun σ hcl hbl => ?_
  simp -dsimp only [L33, ↓preB, postB, genB, ↓reduceIte, Nat.reduceEqDiff, Int.reduceToNat, Int.reduceLE, Int.reduceLT, Nat.reduceAdd, Nat.reduceLeDiff, intBin, strBin, unD, extractD, lit1, lit2, lit3, keptD, boxR, D.one, D.pub1, D.cells, splice, cutOwn]
  refine Fn.use (validate_c t) ?_
  cases c : (badT t != 0)
  · simp -dsimp only [c, ↓preB, postB, genB, ↓reduceIte, Nat.reduceEqDiff, Int.reduceToNat, Int.reduceLE, Int.reduceLT, Nat.reduceAdd, Nat.reduceLeDiff, intBin, strBin, unD, extractD, lit1, lit2, lit3, keptD, boxR, D.one, D.pub1, D.cells, splice, cutOwn]
    refine Fn.use (symsValidateWord_c w) ?_
    simp -dsimp only [c, ↓preB, postB, genB, ↓reduceIte, Nat.reduceEqDiff, Int.reduceToNat, Int.reduceLE, Int.reduceLT, Nat.reduceAdd, Nat.reduceLeDiff, intBin, strBin, unD, extractD, lit1, lit2, lit3, keptD, boxR, D.one, D.pub1, D.cells, splice, cutOwn]
    exact Ret.is (by simp only [errTW, c]; rfl)
  · simp -dsimp only [c, ↓preB, postB, genB, ↓reduceIte, Nat.reduceEqDiff, Int.reduceToNat, Int.reduceLE, Int.reduceLT, Nat.reduceAdd, Nat.reduceLeDiff, intBin, strBin, unD, extractD, lit1, lit2, lit3, keptD, boxR, D.one, D.pub1, D.cells, splice, cutOwn]
    exact Ret.is (by simp only [errTW, c]; rfl)
theorem errTW_zero {t : List Sh} {w : Wd} (h : errTW t w = 0) : badT t = 0 ∧ badW w = 0 := by
  unfold errTW at h
  cases c : (badT t != 0)
  · rw [c] at h; simp at c h; exact ⟨c, h⟩
  · rw [c] at h; simp at c h; exact absurd h c

/-- What Shift returns. -/
def shiftR (t : List Sh) (w : Wd) : Wd × Int := if errTW t w != 0 then ([], errTW t w) else if 60 < (shiftW t w).1.length then ([], 3) else ((shiftW t w).1, 0)
def cleanR (t : List Sh) (w : Wd) : Bool × Int := if errTW t w != 0 then (false, errTW t w) else ((shiftW t w).2, 0)

theorem Shift_c (t : List Sh) (w : Wd) : Fn Zs 14 [encT t, encSS w] (.tup [encSS (shiftR t w).1, .int .i64 (shiftR t w).2]) := by
  refine fn_of (Z := Zs) ok14 fun σ hcl hbl => ?_
  simp -dsimp only [L14, ↓preB, postB, genB, ↓reduceIte, Nat.reduceEqDiff, Int.reduceToNat, Int.reduceLE, Int.reduceLT, Nat.reduceAdd, Nat.reduceLeDiff, intBin, strBin, unD, extractD, lit1, lit2, lit3, keptD, boxR, D.one, D.pub1, D.cells, splice, cutOwn]
  refine Fn.use (checked_c t w) ?_
  cases c : (errTW t w != 0)
  · obtain ⟨e1, e2⟩ := errTW_zero (by simpa using c)
    obtain ⟨h1, h2⟩ := table_ok e1
    have h3 := badW_len e2
    simp -dsimp only [c, ↓preB, postB, genB, ↓reduceIte, Nat.reduceEqDiff, Int.reduceToNat, Int.reduceLE, Int.reduceLT, Nat.reduceAdd, Nat.reduceLeDiff, intBin, strBin, unD, extractD, lit1, lit2, lit3, keptD, boxR, D.one, D.pub1, D.cells, splice, cutOwn]
    refine Fn.use (shifted_c t w h1 h2 (by omega)) ?_
    by_cases c2 : (60 : Int) < ((shiftW t w).1).length
    · simp -dsimp only [c, c2, encSS, ↓preB, postB, genB, ↓reduceIte, Nat.reduceEqDiff, Int.reduceToNat, Int.reduceLE, Int.reduceLT, Nat.reduceAdd, Nat.reduceLeDiff, intBin, strBin, unD, extractD, lit1, lit2, lit3, keptD, boxR, D.one, D.pub1, D.cells, splice, cutOwn]
      intros
      simp only [shiftR, c, if_pos (show 60 < (shiftW t w).1.length by omega)]
      exact Ret.less (HLe.refl _) hcl (.tup2 (.sl .nil .no 0 [] [] (.inl rfl) rfl (fun i h => by cases h)) (.refl _)) (.tup2 (.no (by simp)) (.int _ _))
    · simp -dsimp only [c, c2, encSS, ↓preB, postB, genB, ↓reduceIte, Nat.reduceEqDiff, Int.reduceToNat, Int.reduceLE, Int.reduceLT, Nat.reduceAdd, Nat.reduceLeDiff, intBin, strBin, unD, extractD, lit1, lit2, lit3, keptD, boxR, D.one, D.pub1, D.cells, splice, cutOwn]
      intros
      refine Ret.is ?_
      simp only [shiftR, c, if_neg (show ¬ 60 < (shiftW t w).1.length by omega)]; rfl
  · simp -dsimp only [c, ↓preB, postB, genB, ↓reduceIte, Nat.reduceEqDiff, Int.reduceToNat, Int.reduceLE, Int.reduceLT, Nat.reduceAdd, Nat.reduceLeDiff, intBin, strBin, unD, extractD, lit1, lit2, lit3, keptD, boxR, D.one, D.pub1, D.cells, splice, cutOwn]
    simp only [shiftR, c]
    exact Ret.less (HLe.refl _) hcl (.tup2 (.sl .nil .no 0 [] [] (.inl rfl) rfl (fun i h => by cases h)) (.refl _)) (.tup2 (.no (by simp)) (.int _ _))
theorem Clean_c (t : List Sh) (w : Wd) : Fn Zs 13 [encT t, encSS w] (.tup [.bool (cleanR t w).1, .int .i64 (cleanR t w).2]) := by
  refine fn_of (Z := Zs) ok13 fun σ hcl hbl => ?_
  simp -dsimp only [L13, ↓preB, postB, genB, ↓reduceIte, Nat.reduceEqDiff, Int.reduceToNat, Int.reduceLE, Int.reduceLT, Nat.reduceAdd, Nat.reduceLeDiff, intBin, strBin, unD, extractD, lit1, lit2, lit3, keptD, boxR, D.one, D.pub1, D.cells, splice, cutOwn]
  refine Fn.use (checked_c t w) ?_
  cases c : (errTW t w != 0)
  · obtain ⟨e1, e2⟩ := errTW_zero (by simpa using c)
    obtain ⟨h1, h2⟩ := table_ok e1
    have h3 := badW_len e2
    simp -dsimp only [c, ↓preB, postB, genB, ↓reduceIte, Nat.reduceEqDiff, Int.reduceToNat, Int.reduceLE, Int.reduceLT, Nat.reduceAdd, Nat.reduceLeDiff, intBin, strBin, unD, extractD, lit1, lit2, lit3, keptD, boxR, D.one, D.pub1, D.cells, splice, cutOwn]
    refine Fn.use (shifted_c t w h1 h2 (by omega)) ?_
    simp -dsimp only [c, encSS, ↓preB, postB, genB, ↓reduceIte, Nat.reduceEqDiff, Int.reduceToNat, Int.reduceLE, Int.reduceLT, Nat.reduceAdd, Nat.reduceLeDiff, intBin, strBin, unD, extractD, lit1, lit2, lit3, keptD, boxR, D.one, D.pub1, D.cells, splice, cutOwn]
    refine Ret.is ?_
    simp only [cleanR, c]; rfl
  · simp -dsimp only [c, ↓preB, postB, genB, ↓reduceIte, Nat.reduceEqDiff, Int.reduceToNat, Int.reduceLE, Int.reduceLT, Nat.reduceAdd, Nat.reduceLeDiff, intBin, strBin, unD, extractD, lit1, lit2, lit3, keptD, boxR, D.one, D.pub1, D.cells, splice, cutOwn]
    refine Ret.is ?_
    simp only [cleanR, c]; rfl
end Go.Proofs.YtldlcejlfaogbaaDoor.Vs

/- The shifted word by the reference, and how often each row was taken. -/
namespace Go.Proofs.YtldlcejlfaogbaaDoor.Vs
set_option linter.unusedVariables false
set_option linter.unusedSimpArgs false
set_option maxRecDepth 20000

def bump (c : List Int) (b : Option Nat) : List Int := match b with | none => c | some k => c.set k (c.getD k 0 + 1)
def cntF (t : List Sh) : Nat → Wd → List Int → List Int
  | 0, _, c => c
  | n + 1, w, c => if w.length = 0 then c else cntF t n (w.drop (stepN t w)) (bump c (fitW t w))
def cntW (t : List Sh) (w : Wd) : List Int := cntF t w.length w (List.replicate t.length 0)

theorem bump_len (c : List Int) (b : Option Nat) : (bump c b).length = c.length := by
  unfold bump; cases b <;> simp
theorem cntF_len (t : List Sh) : ∀ (n : Nat) (w : Wd) (c : List Int), (cntF t n w c).length = c.length
  | 0, _, _ => rfl
  | n + 1, w, c => by
    simp only [cntF]
    split
    · rfl
    · rw [cntF_len t n, bump_len]
theorem Shifted_c (t : List Sh) (w : Wd) (h1 : ∀ r ∈ t, r.From ≠ []) (h2 : ∀ r ∈ t, r.To.length ≤ 60) (h3 : w.length ≤ 1000) (h4 : t.length ≤ 1000) : Fn Zs 29 [encT t, encSS w] (.tup [encSS (shiftW t w).1, .bool (shiftW t w).2, encI (cntW t w)]) := by
  refine fn_of (Z := Zs) ok29 fun σ hcl hbl => ?_
  simp -dsimp only [L29, encT, ↓preB, postB, genB, ↓reduceIte, Nat.reduceEqDiff, Int.reduceToNat, Int.reduceLE, Int.reduceLT, Nat.reduceAdd, Nat.reduceLeDiff, intBin, strBin, unD, extractD, lit1, lit2, lit3, keptD, boxR, D.one, D.pub1, D.cells, splice, cutOwn]
  intro hbig
  refine ⟨⟨by omega, by omega, by simp only [big]; omega⟩, ?_⟩
  obtain ⟨q, hq⟩ : ∃ q, q = σ.next := ⟨_, rfl⟩
  have hci : ∀ l : List Int, Closed (σ.new (.cells 3 (l.map (.int .i64)))) := fun l => hcl.new (bel_ints l)
  refine pwp_loopG (fun (x : Wd × Wd × Bool × List Int) env s => (∃ n, x.1.length ≤ n ∧ n ≤ w.length ∧ x.2.1.length + 60 * n ≤ 60 * w.length ∧ x.2.1 ++ (shiftF t n x.1).1 = (shiftW t w).1 ∧ (x.2.2.1 && (shiftF t n x.1).2) = (shiftW t w).2 ∧ cntF t n x.1 x.2.2.2 = cntW t w ∧ x.2.2.2.length = t.length ∧ ∀ c ∈ x.2.2.2, 0 ≤ c ∧ c + n ≤ w.length) ∧
    Acc 9 1 (σ.new (.cells 3 (x.2.2.2.map (.int .i64)))) x.2.1.length (x.2.1.map .str) (env 7) s ∧ env 8 = .bool x.2.2.1 ∧ env 1 = encSS x.1 ∧ env 0 = encT t ∧ env 9 = .row q 0 t.length (some t.length) 1) (fun x => x.1.length) (w, [], true, List.replicate t.length 0) ?_ ?_
  · simp only [upd_apply, envOf_apply, encT, Nat.reduceEqDiff, if_true, if_false, Int.toNat_natCast]
    refine ⟨⟨w.length, Nat.le_refl _, Nat.le_refl _, by simp, rfl, by simp [shiftW], rfl, by simp, fun c hc => ?_⟩, ?_, trivial, rfl, rfl, by rw [hq]⟩
    · obtain ⟨_, rfl⟩ := List.mem_replicate.1 hc
      omega
    · rw [List.map_replicate]; exact Acc.nil (HLe.refl _)
  · rintro ⟨rest, out, cl, cnt⟩ env s ⟨⟨n, hn, hnw, hsz, hp1, hp2, hp3, hcn, hcb⟩, hA, h8, h1', h0, h9⟩
    simp only at hn hsz hp1 hp2 hp3 hcn hcb hA h8 h1'
    obtain ⟨hs, _⟩ := hA.set (x := .cells 3 []) (hci _) (Heap.new_same _ _)
    rw [← hq] at hs
    by_cases hr : rest = []
    · have hneg : ¬ (0 : Int) < rest.length := by rw [hr]; simp
      simp -dsimp only [h8, h1', h0, h9, hneg, encSS, encT, ↓preB, postB, genB, ↓reduceIte, Nat.reduceEqDiff, Int.reduceToNat, Int.reduceLE, Int.reduceLT, Nat.reduceAdd, Nat.reduceLeDiff, intBin, strBin, unD, extractD, lit1, lit2, lit3, keptD, boxR, D.one, D.pub1, D.cells, splice, cutOwn]
      intros
      have e0 : shiftF t n rest = ([], true) := by
        cases n with
        | zero => rfl
        | succ n => simp [shiftF, hr]
      have e1 : cntF t n rest cnt = cnt := by
        cases n with
        | zero => rfl
        | succ n => simp [cntF, hr]
      rw [e0] at hp1 hp2
      rw [e1] at hp3
      simp only [List.append_nil, Bool.and_true] at hp1 hp2
      have hle : HLe σ s := (HLe.self_new _ hcl).trans hA.le
      rw [← hp1, ← hp2, ← hp3]
      refine Ret.less hle hcl (.tup3 hA.told (.refl _) ?_) (.tup3 (.no (bel_strs _)) (.bool _) (.no (bel_ints _)))
      simp only [encI, hcn]
      exact Told.rowI hs (hcl.none (by omega)) (by simp [hcn])
    · have hpos : 0 < rest.length := List.length_pos_iff.2 hr
      have hpos' : (0 : Int) < rest.length := by omega
      obtain ⟨hs1, hs2⟩ := stepN_pos h1 hr
      have hst := stepTo_le (t := t) (w := rest) h2
      obtain ⟨n, rfl⟩ : ∃ m, n = m + 1 := ⟨n - 1, by omega⟩
      have hne : ¬ rest.length = 0 := by omega
      simp only [shiftF, cntF, hne, if_false] at hp1 hp2 hp3
      simp -dsimp only [h8, h1', h0, h9, hpos', encSS, ↓preB, postB, genB, ↓reduceIte, Nat.reduceEqDiff, Int.reduceToNat, Int.reduceLE, Int.reduceLT, Nat.reduceAdd, Nat.reduceLeDiff, intBin, strBin, unD, extractD, lit1, lit2, lit3, keptD, boxR, D.one, D.pub1, D.cells, splice, cutOwn]
      intro hbig2
      refine Fn.use (row_c t rest) ?_
      cases hf : fitW t rest with
      | none =>
        have hx0 : rest[0]? = some (rest[0]'hpos) := List.getElem?_eq_getElem hpos
        have hone : (1 : Int) ≤ rest.length := by omega
        have e1 : stepTo t rest = [rest[0]'hpos] := by
          cases rest with
          | nil => exact absurd rfl hr
          | cons a l => simp [stepTo, hf]
        have e2 : stepN t rest = 1 := by simp [stepN, hf]
        rw [e1, e2] at hp1
        rw [e2, hf] at hp3
        rw [hf] at hp2
        simp only [optI_none, show ¬ ((0 : Int) ≤ -1) by decide, decide_false, Bool.false_and, Bool.and_false] at hp2
        simp -dsimp only [h8, h1', h0, h9, hpos', hpos, hx0, hone, encSS, optI_none, neg1, ↓preB, postB, genB, ↓reduceIte, Nat.reduceEqDiff, Int.reduceToNat, Int.reduceLE, Int.reduceLT, Nat.reduceAdd, Nat.reduceLeDiff, intBin, strBin, unD, extractD, lit1, lit2, lit3, keptD, boxR, D.one, D.pub1, D.cells, splice, cutOwn]
        refine hA.append (hci _) tz29 rfl tz9 rfl rfl rfl (by decide) (by simp) (fedBy_sl tz29 rfl rfl) (by simp only []; omega) (by simp only [big]; omega) fun d' s' hA' => ?_
        simp -dsimp only [h8, h1', h0, h9, hpos', hpos, hx0, hone, encSS, optI_none, neg1, ↓preB, postB, genB, ↓reduceIte, Nat.reduceEqDiff, Int.reduceToNat, Int.reduceLE, Int.reduceLT, Nat.reduceAdd, Nat.reduceLeDiff, intBin, strBin, unD, extractD, lit1, lit2, lit3, keptD, boxR, D.one, D.pub1, D.cells, splice, cutOwn]
        refine ⟨by omega, (rest.drop 1, out ++ [rest[0]'hpos], false, cnt), ⟨⟨n, ?_, by omega, ?_, ?_, by simpa using hp2, hp3, hcn, fun c hc => ?_⟩, by simpa using hA', rfl, ?_⟩, ?_⟩
        · simp only [List.length_drop]; omega
        · simp only [List.length_append, List.length_cons, List.length_nil]; omega
        · rw [← hp1, List.append_assoc]
        · have := hcb c hc; omega
        · exact encSS_drop rest 1 (by omega)
        · simp only [List.length_drop]; omega
      | some j =>
        have hj := fitW_lt hf
        have hjc : j < cnt.length := by omega
        have hcj : cnt[j]? = some (cnt[j]'hjc) := List.getElem?_eq_getElem hjc
        have hcv := hcb _ (List.getElem_mem hjc)
        have hw : IntKind.i64.wrap (cnt[j]'hjc + 1) = cnt[j]'hjc + 1 := wrap64_in (by omega) (by omega)
        have hd := rowsD_at hj
        have hposr : 0 < (rowsD t).length := by rw [rowsD_len]; omega
        have hsp : List.take j (List.map (D.int .i64) cnt) ++ [D.int .i64 (cnt[j]'hjc + 1)] ++ List.drop (j + 1) (List.map (D.int .i64) cnt) = List.map (D.int .i64) (bump cnt (some j)) := by
          rw [splice_one (by simpa using hjc), bump]
          simp [hjc, List.map_set]
        have hA2 := (hA.set (x := .cells 3 ((bump cnt (some j)).map (.int .i64))) (hci _) (Heap.new_same _ _)).2
        rw [Heap.new_set, ← hq] at hA2
        simp -dsimp only [h8, h1', h0, h9, hpos', encT, encSS, optI_some, natneg, hj, hs, hcj, hw, hd, hposr, hsp, ↓preB, postB, genB, ↓reduceIte, Nat.reduceEqDiff, Int.reduceToNat, Int.reduceLE, Int.reduceLT, Nat.reduceAdd, Nat.reduceLeDiff, intBin, strBin, unD, extractD, lit1, lit2, lit3, keptD, boxR, D.one, D.pub1, D.cells, splice, cutOwn]
        have e1 : stepTo t rest = t[j].To := by simp [stepTo, hf, hj]
        have e2 : stepN t rest = t[j].From.length := by simp [stepN, hf, hj]
        rw [e1] at hst
        refine ⟨by omega, hA2.append (hci _) tz29 rfl tz9 rfl rfl rfl (by decide) (by simp) (fedBy_sl tz29 rfl (by simp)) (by simp only []; omega) (by simp only [big]; omega) fun d' s' hA' => ?_⟩
        simp -dsimp only [h8, h1', h0, h9, hpos', encT, encSS, optI_some, natneg, hj, hs, hcj, hw, hd, hposr, hsp, ↓preB, postB, genB, ↓reduceIte, Nat.reduceEqDiff, Int.reduceToNat, Int.reduceLE, Int.reduceLT, Nat.reduceAdd, Nat.reduceLeDiff, intBin, strBin, unD, extractD, lit1, lit2, lit3, keptD, boxR, D.one, D.pub1, D.cells, splice, cutOwn]
        intros
        rw [e2] at hs1 hs2 hp1 hp2 hp3
        rw [e1] at hp1
        rw [hf] at hp2 hp3
        simp only [optI_some, show (0 : Int) ≤ (j : Int) by omega, decide_true, Bool.true_and] at hp2
        refine ⟨⟨by omega, by omega⟩, (rest.drop t[j].From.length, out ++ t[j].To, cl, bump cnt (some j)), ⟨⟨n, ?_, by omega, ?_, ?_, hp2, hp3, by rw [bump_len]; exact hcn, fun c hc => ?_⟩, by simpa using hA', ?_⟩, ?_⟩
        · simp only [List.length_drop]; omega
        · simp only [List.length_append]; omega
        · rw [← hp1, List.append_assoc]
        · simp only [bump] at hc
          rcases List.mem_or_eq_of_mem_set hc with hc | hc
          · have := hcb c hc; omega
          · rw [hc, List.getD_eq_getElem?_getD, hcj]; simp only [Option.getD_some]; omega
        · exact ⟨rfl, encSS_drop rest _ hs2⟩
        · simp only [List.length_drop]; omega

end Go.Proofs.YtldlcejlfaogbaaDoor.Vs

/- Lists of words looked through; the errors of Code; rows of numbers compared and joined. -/
namespace Go.Proofs.YtldlcejlfaogbaaDoor.Vs
set_option linter.unusedVariables false
set_option linter.unusedSimpArgs false
set_option maxRecDepth 20000

theorem indexLL_c (w : List Wd) (p : Wd → Bool) (g : FuncId) (caps : List D) (hp : ∀ x ∈ w, Fn Zs g (encSS x :: caps) (.bool (p x))) :
    Fn Zs 68 [encLL w, .func g caps] (.int .i64 (idxOf p w)) := by
  refine fn_of (Z := Zs) ok68 fun σ hcl hbl => ?_
  simp -dsimp only [L68, encLL, ↓preB, postB, genB, ↓reduceIte, Nat.reduceEqDiff, Int.reduceToNat, Int.reduceLE, Int.reduceLT, Nat.reduceAdd, Nat.reduceLeDiff, intBin, strBin, unD, extractD, lit1, lit2, lit3, keptD, boxR, D.one, D.pub1, D.cells, splice, cutOwn]
  intro hbig
  refine pwp_loopG (fun k env s => k ≤ w.length ∧ (∀ j (h : j < w.length), j < k → p w[j] = false) ∧ s = σ ∧ env 8 = .int .i64 (k:Nat) ∧ env 7 = .int .i64 w.length ∧ env 0 = encLL w ∧ env 1 = .func g caps) (fun k => w.length - k) 0 ?_ ?_
  · simp [upd_apply, envOf, encLL]
  · rintro k env s ⟨hk, hp', rfl, h8, h7, h0, h1⟩
    rcases Nat.lt_or_ge k w.length with hlt | hge
    · have hx : w[k]? = some w[k] := List.getElem?_eq_getElem hlt
      simp -dsimp only [h8, h7, h0, h1, encLL, hlt, hx, ↓preB, postB, genB, ↓reduceIte, Nat.reduceEqDiff, Int.reduceToNat, Int.reduceLE, Int.reduceLT, Nat.reduceAdd, Nat.reduceLeDiff, intBin, strBin, unD, extractD, lit1, lit2, lit3, keptD, boxR, D.one, D.pub1, D.cells, splice, cutOwn]
      refine ⟨by omega, Fn.use (hp _ (List.getElem_mem hlt)) ?_⟩
      cases hq : p w[k] <;> simp -dsimp only [h8, h7, h0, h1, hq, ↓preB, postB, genB, ↓reduceIte, Nat.reduceEqDiff, Int.reduceToNat, Int.reduceLE, Int.reduceLT, Nat.reduceAdd, Nat.reduceLeDiff, intBin, strBin, unD, extractD, lit1, lit2, lit3, keptD, boxR, D.one, D.pub1, D.cells, splice, cutOwn]
      · refine ⟨k + 1, ⟨by omega, fun j hj hjk => ?_, wrap64_succ (by omega)⟩, by omega⟩
        rcases Nat.lt_succ_iff_lt_or_eq.1 hjk with h | rfl
        · exact hp' j hj h
        · exact hq
      · refine Ret.is ?_
        have : w.findIdx? p = some k := by
          rw [List.findIdx?_eq_some_iff_getElem]
          exact ⟨hlt, hq, fun j hj => by simp [hp' j (by omega) hj]⟩
        simp [idxOf, this]
    · simp -dsimp only [h8, h7, h0, h1, encLL, Nat.not_lt.2 hge, ↓preB, postB, genB, ↓reduceIte, Nat.reduceEqDiff, Int.reduceToNat, Int.reduceLE, Int.reduceLT, Nat.reduceAdd, Nat.reduceLeDiff, intBin, strBin, unD, extractD, lit1, lit2, lit3, keptD, boxR, D.one, D.pub1, D.cells, splice, cutOwn]
      refine Ret.is ?_
      have : w.findIdx? p = none := by
        rw [List.findIdx?_eq_none_iff]
        intro x hx
        obtain ⟨j, hj, rfl⟩ := List.getElem_of_mem hx
        exact hp' j hj (by omega)
      simp [idxOf, this]

def long8 (w : Wd) : Bool := decide (8 < w.length)
def noneIn (w : Wd) : Bool := w.length == 0
theorem noneIn_c (w : Wd) : Fn Zs 69 [encSS w] (.bool (noneIn w)) := by
  refine fn_of (Z := Zs) ok69 fun σ hcl hbl => ?_
  simp -dsimp only [L69, encSS, ↓preB, postB, genB, ↓reduceIte, Nat.reduceEqDiff, Int.reduceToNat, Int.reduceLE, Int.reduceLT, Nat.reduceAdd, Nat.reduceLeDiff, intBin, strBin, unD, extractD, lit1, lit2, lit3, keptD, boxR, D.one, D.pub1, D.cells, splice, cutOwn]
  intro hb
  exact Ret.is (by rw [noneIn]; congr 1; rw [Bool.eq_iff_iff]; simp)

theorem isLong8_c (l : List Wd) : Fn Zs 27 [encLL l] (.bool (l.any long8)) := by
  refine fn_of (Z := Zs) ok27 fun σ hcl hbl => ?_
  simp -dsimp only [L27, encLL, ↓preB, postB, genB, ↓reduceIte, Nat.reduceEqDiff, Int.reduceToNat, Int.reduceLE, Int.reduceLT, Nat.reduceAdd, Nat.reduceLeDiff, intBin, strBin, unD, extractD, lit1, lit2, lit3, keptD, boxR, D.one, D.pub1, D.cells, splice, cutOwn]
  refine pwp_loopG (fun k env s => k ≤ l.length ∧ (∀ j (h : j < l.length), j < k → long8 l[j] = false) ∧ s = σ ∧ env 3 = .int .i64 (k:Nat) ∧ env 0 = encLL l) (fun k => l.length - k) 0 ?_ ?_
  · simp [upd_apply, envOf, encLL]
  · rintro k env s ⟨hk, hp, rfl, h3, h0⟩
    rcases Nat.lt_or_ge k l.length with hlt | hge
    · have hx : l[k]? = some l[k] := List.getElem?_eq_getElem hlt
      by_cases c1 : (8 : Int) < (l[k]).length
      · have hq : long8 l[k] = true := by simp [long8]; omega
        simp -dsimp only [h3, h0, encLL, encSS, hlt, hx, c1, ↓preB, postB, genB, ↓reduceIte, Nat.reduceEqDiff, Int.reduceToNat, Int.reduceLE, Int.reduceLT, Nat.reduceAdd, Nat.reduceLeDiff, intBin, strBin, unD, extractD, lit1, lit2, lit3, keptD, boxR, D.one, D.pub1, D.cells, splice, cutOwn]
        intros
        refine ⟨by omega, fun _ => Ret.is ?_⟩
        have : l.any long8 = true := List.any_eq_true.2 ⟨_, List.getElem_mem hlt, hq⟩
        rw [this]
      · have hq : long8 l[k] = false := by simp [long8]; omega
        simp -dsimp only [h3, h0, encLL, encSS, hlt, hx, c1, ↓preB, postB, genB, ↓reduceIte, Nat.reduceEqDiff, Int.reduceToNat, Int.reduceLE, Int.reduceLT, Nat.reduceAdd, Nat.reduceLeDiff, intBin, strBin, unD, extractD, lit1, lit2, lit3, keptD, boxR, D.one, D.pub1, D.cells, splice, cutOwn]
        intros
        refine ⟨by omega, fun _ => ⟨k + 1, ⟨by omega, fun j hj hjk => ?_, wrap64_succ (by omega)⟩, by omega⟩⟩
        rcases Nat.lt_succ_iff_lt_or_eq.1 hjk with h | rfl
        · exact hp j hj h
        · exact hq
    · simp -dsimp only [h3, h0, encLL, Nat.not_lt.2 hge, ↓preB, postB, genB, ↓reduceIte, Nat.reduceEqDiff, Int.reduceToNat, Int.reduceLE, Int.reduceLT, Nat.reduceAdd, Nat.reduceLeDiff, intBin, strBin, unD, extractD, lit1, lit2, lit3, keptD, boxR, D.one, D.pub1, D.cells, splice, cutOwn]
      intros
      refine Ret.is ?_
      have : l.any long8 = false := by
        rw [List.any_eq_false]
        intro x hx
        obtain ⟨j, hj, rfl⟩ := List.getElem_of_mem hx
        simp [hp j hj (by omega)]
      rw [this]

/-- What is wrong with a list that is asked to be a code. -/
def errC (l : List Wd) : Int := if 24 < l.length then 3 else if badLL l != 0 then badLL l else if l.any long8 then 3 else 0
theorem errC_zero {l : List Wd} (h : errC l = 0) : l.length ≤ 24 ∧ badLL l = 0 ∧ ∀ w ∈ l, w.length ≤ 8 := by
  unfold errC at h
  split at h
  · cases h
  · split at h
    · rename_i h2; rw [h] at h2; cases h2
    · split at h
      · cases h
      · rename_i h1 h2 h3
        refine ⟨by omega, by simpa using h2, fun w hw => ?_⟩
        have := List.any_eq_false.1 (by simpa using h3) w hw
        simp only [long8, decide_eq_true_eq] at this
        omega

/-- Two rows of numbers are alike. -/
def eqI : List Int → List Int → Bool
  | [], [] => true
  | a :: l, b :: m => (a == b) && eqI l m
  | _, _ => false
theorem eqI_iff : ∀ {a b : List Int}, eqI a b = true ↔ a = b
  | [], [] => by simp [eqI]
  | [], _ :: _ => by simp [eqI]
  | _ :: _, [] => by simp [eqI]
  | a :: l, b :: m => by simp [eqI, eqI_iff (a := l) (b := m)]
theorem eqI_len : ∀ {a b : List Int}, a.length ≠ b.length → eqI a b = false
  | [], [], h => absurd rfl h
  | [], _ :: _, _ => rfl
  | _ :: _, [], _ => rfl
  | x :: a, y :: b, h => by simp only [eqI, eqI_len (a := a) (b := b) (by simpa using h), Bool.and_false]
end Go.Proofs.YtldlcejlfaogbaaDoor.Vs
