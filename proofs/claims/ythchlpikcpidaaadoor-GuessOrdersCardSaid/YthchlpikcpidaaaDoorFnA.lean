/- What the small functions on symbols and words come to. -/
import Derived.Test.YthchlpikcpidaaaDoorDmIr
import Derived.Test.YthchlpikcpidaaaDoorDmGen
namespace Go.Proofs.YthchlpikcpidaaaDoor.Vs
set_option linter.unusedVariables false
set_option linter.unusedSimpArgs false
set_option maxRecDepth 20000
abbrev Wd := List ByteArray
def encSS (w : Wd) : D := .sl .no w.length (w.map .str)
def idxOf {α : Type} (p : α → Bool) (w : List α) : Int := match w.findIdx? p with | some i => i | none => -1
def badI (n : Int) : Bool := decide (n < 33) || (decide (n > 126) || (n == 60 || n == 62))
def bytesOK (s : ByteArray) : Bool := (List.range s.size).all fun i => !badI (byteAt s i)
theorem bytesOK_true {s : ByteArray} (h : ∀ j, j < s.size → badI (byteAt s j) = false) : bytesOK s = true := by
  simp only [bytesOK, List.all_eq_true, List.mem_range]
  intro j hj
  simp [h j hj]
theorem bytesOK_false {s : ByteArray} {j : Nat} (hj : j < s.size) (h : badI (byteAt s j) = true) : bytesOK s = false := by
  simp only [bytesOK, List.all_eq_false, List.mem_range]
  exact ⟨j, hj, by simp [h]⟩

theorem isSymbol_c (s : ByteArray) : Fn Zs 39 [.str s] (.bool (bytesOK s && !(s == ⟨#[]⟩))) := by
  refine fn_of (Z := Zs) ok39 fun σ hcl hbl => ?_
  simp -dsimp only [L39, ↓preB, postB, genB, ↓reduceIte, Nat.reduceEqDiff, Int.reduceToNat, Int.reduceLE, Int.reduceLT, Nat.reduceAdd, Nat.reduceLeDiff, intBin, strBin, unD, extractD, lit1, lit2, lit3, keptD, boxR, D.one, D.pub1, D.cells, splice, cutOwn]
  intro hbig
  refine pwp_loopG (fun k env s' => k ≤ s.size ∧ (∀ j, j < k → badI (byteAt s j) = false) ∧ s' = σ ∧ env 6 = .int .i64 (k:Nat) ∧ env 5 = .int .i64 s.size ∧ env 0 = .str s) (fun k => s.size - k) 0 ?_ ?_
  · simp [upd_apply, envOf]
  · rintro k env s' ⟨hk, hp, rfl, h6, h5, h0⟩
    rcases Nat.lt_or_ge k s.size with hlt | hge
    · have hb : ∀ c, badI (byteAt s k) = c → c = true → (false = (bytesOK s && !(s == ⟨#[]⟩))) := fun c h1 h2 => by
        rw [bytesOK_false hlt (h1.trans h2)]; rfl
      by_cases c1 : byteAt s k < 33
      · simp -dsimp only [h0, h5, h6, hlt, c1, ↓preB, postB, genB, ↓reduceIte, Nat.reduceEqDiff, Int.reduceToNat, Int.reduceLE, Int.reduceLT, Nat.reduceAdd, Nat.reduceLeDiff, intBin, strBin, unD, extractD, lit1, lit2, lit3, keptD, boxR, D.one, D.pub1, D.cells, splice, cutOwn]
        exact Ret.is (by rw [bytesOK_false hlt (by simp [badI, c1])]; rfl)
      by_cases c2 : byteAt s k > 126
      · simp -dsimp only [h0, h5, h6, hlt, c1, c2, ↓preB, postB, genB, ↓reduceIte, Nat.reduceEqDiff, Int.reduceToNat, Int.reduceLE, Int.reduceLT, Nat.reduceAdd, Nat.reduceLeDiff, intBin, strBin, unD, extractD, lit1, lit2, lit3, keptD, boxR, D.one, D.pub1, D.cells, splice, cutOwn]
        exact Ret.is (by rw [bytesOK_false hlt (by simp [badI, c2])]; rfl)
      by_cases c3 : (byteAt s k == 60) = true
      · simp -dsimp only [h0, h5, h6, hlt, c1, c2, c3, ↓preB, postB, genB, ↓reduceIte, Nat.reduceEqDiff, Int.reduceToNat, Int.reduceLE, Int.reduceLT, Nat.reduceAdd, Nat.reduceLeDiff, intBin, strBin, unD, extractD, lit1, lit2, lit3, keptD, boxR, D.one, D.pub1, D.cells, splice, cutOwn]
        exact Ret.is (by rw [bytesOK_false hlt (by simp [badI, c3])]; rfl)
      by_cases c4 : (byteAt s k == 62) = true
      · simp -dsimp only [h0, h5, h6, hlt, c1, c2, c3, c4, ↓preB, postB, genB, ↓reduceIte, Nat.reduceEqDiff, Int.reduceToNat, Int.reduceLE, Int.reduceLT, Nat.reduceAdd, Nat.reduceLeDiff, intBin, strBin, unD, extractD, lit1, lit2, lit3, keptD, boxR, D.one, D.pub1, D.cells, splice, cutOwn]
        exact Ret.is (by rw [bytesOK_false hlt (by simp [badI, c4])]; rfl)
      simp -dsimp only [h0, h5, h6, hlt, c1, c2, c3, c4, ↓preB, postB, genB, ↓reduceIte, Nat.reduceEqDiff, Int.reduceToNat, Int.reduceLE, Int.reduceLT, Nat.reduceAdd, Nat.reduceLeDiff, intBin, strBin, unD, extractD, lit1, lit2, lit3, keptD, boxR, D.one, D.pub1, D.cells, splice, cutOwn]
      have hk' : badI (byteAt s k) = false := by simp [badI, c1, c2, c3, c4]
      refine ⟨k + 1, ⟨by omega, fun j hj => ?_, wrap64_succ (by omega)⟩, by omega⟩
      rcases Nat.lt_succ_iff_lt_or_eq.1 hj with h | rfl
      · exact hp j h
      · exact hk'
    · simp -dsimp only [h0, h5, h6, Nat.not_lt.2 hge, ↓preB, postB, genB, ↓reduceIte, Nat.reduceEqDiff, Int.reduceToNat, Int.reduceLE, Int.reduceLT, Nat.reduceAdd, Nat.reduceLeDiff, intBin, strBin, unD, extractD, lit1, lit2, lit3, keptD, boxR, D.one, D.pub1, D.cells, splice, cutOwn]
      exact Ret.is (by rw [bytesOK_true (fun j hj => hp j (by omega))]; rfl)

theorem isLong_c (s : ByteArray) : Fn Zs 37 [.str s] (.bool (decide (16 < s.size))) := by
  refine fn_of (Z := Zs) ok37 fun σ hcl hbl => ?_
  simp -dsimp only [L37, ↓preB, postB, genB, ↓reduceIte, Nat.reduceEqDiff, Int.reduceToNat, Int.reduceLE, Int.reduceLT, Nat.reduceAdd, Nat.reduceLeDiff, intBin, strBin, unD, extractD, lit1, lit2, lit3, keptD, boxR, D.one, D.pub1, D.cells, splice, cutOwn]
  exact fun _ => Ret.is (by congr 1; simp; omega)
theorem notSym_c (s : ByteArray) : Fn Zs 38 [.str s] (.bool (!(bytesOK s && !(s == ⟨#[]⟩)))) := by
  refine fn_of (Z := Zs) ok38 fun σ hcl hbl => ?_
  simp -dsimp only [L38, ↓preB, postB, genB, ↓reduceIte, Nat.reduceEqDiff, Int.reduceToNat, Int.reduceLE, Int.reduceLT, Nat.reduceAdd, Nat.reduceLeDiff, intBin, strBin, unD, extractD, lit1, lit2, lit3, keptD, boxR, D.one, D.pub1, D.cells, splice, cutOwn]
  refine Fn.use (isSymbol_c s) ?_
  simp -dsimp only [↓preB, postB, genB, ↓reduceIte, Nat.reduceEqDiff, Int.reduceToNat, Int.reduceLE, Int.reduceLT, Nat.reduceAdd, Nat.reduceLeDiff, intBin, strBin, unD, extractD, lit1, lit2, lit3, keptD, boxR, D.one, D.pub1, D.cells, splice, cutOwn]
  exact Ret.is rfl

theorem indexSS_c (w : Wd) (p : ByteArray → Bool) (g : FuncId) (caps : List D) (hp : ∀ x ∈ w, Fn Zs g (.str x :: caps) (.bool (p x))) :
    Fn Zs 55 [encSS w, .func g caps] (.int .i64 (idxOf p w)) := by
  refine fn_of (Z := Zs) ok55 fun σ hcl hbl => ?_
  simp -dsimp only [L55, encSS, ↓preB, postB, genB, ↓reduceIte, Nat.reduceEqDiff, Int.reduceToNat, Int.reduceLE, Int.reduceLT, Nat.reduceAdd, Nat.reduceLeDiff, intBin, strBin, unD, extractD, lit1, lit2, lit3, keptD, boxR, D.one, D.pub1, D.cells, splice, cutOwn]
  intro hbig
  refine pwp_loopG (fun k env s => k ≤ w.length ∧ (∀ j (h : j < w.length), j < k → p w[j] = false) ∧ s = σ ∧ env 8 = .int .i64 (k:Nat) ∧ env 7 = .int .i64 w.length ∧ env 0 = encSS w ∧ env 1 = .func g caps) (fun k => w.length - k) 0 ?_ ?_
  · simp [upd_apply, envOf, encSS]
  · rintro k env s ⟨hk, hp', rfl, h8, h7, h0, h1⟩
    rcases Nat.lt_or_ge k w.length with hlt | hge
    · have hx : w[k]? = some w[k] := List.getElem?_eq_getElem hlt
      simp -dsimp only [h8, h7, h0, h1, encSS, hlt, hx, ↓preB, postB, genB, ↓reduceIte, Nat.reduceEqDiff, Int.reduceToNat, Int.reduceLE, Int.reduceLT, Nat.reduceAdd, Nat.reduceLeDiff, intBin, strBin, unD, extractD, lit1, lit2, lit3, keptD, boxR, D.one, D.pub1, D.cells, splice, cutOwn]
      refine ⟨by omega, Fn.use (hp _ (List.getElem_mem hlt)) ?_⟩
      cases hq : p w[k] <;> simp -dsimp only [h8, h7, h0, h1, hq, ↓preB, postB, genB, ↓reduceIte, Nat.reduceEqDiff, Int.reduceToNat, Int.reduceLE, Int.reduceLT, Nat.reduceAdd, Nat.reduceLeDiff, intBin, strBin, unD, extractD, lit1, lit2, lit3, keptD, boxR, D.one, D.pub1, D.cells, splice, cutOwn]
      · refine ⟨k + 1, ⟨by omega, fun j hj hjk => ?_, wrap64_succ (by omega)⟩, by omega⟩
        rcases Nat.lt_succ_iff_lt_or_eq.1 hjk with h | rfl
        · exact hp' j hj h
        · exact hq
      · refine Ret.is ?_
        have : w.findIdx? p = some k := by
          rw [List.findIdx?_eq_some_iff_getElem]
          exact ⟨hlt, hq, fun j hj => by simp [hp' j (by omega) hj]⟩
        simp [idxOf, this]
    · simp -dsimp only [h8, h7, h0, h1, encSS, Nat.not_lt.2 hge, ↓preB, postB, genB, ↓reduceIte, Nat.reduceEqDiff, Int.reduceToNat, Int.reduceLE, Int.reduceLT, Nat.reduceAdd, Nat.reduceLeDiff, intBin, strBin, unD, extractD, lit1, lit2, lit3, keptD, boxR, D.one, D.pub1, D.cells, splice, cutOwn]
      refine Ret.is ?_
      have : w.findIdx? p = none := by
        rw [List.findIdx?_eq_none_iff]
        intro x hx
        obtain ⟨j, hj, rfl⟩ := List.getElem_of_mem hx
        exact hp' j hj (by omega)
      simp [idxOf, this]

theorem idxOf_any {α : Type} (p : α → Bool) (w : List α) : decide (0 ≤ idxOf p w) = w.any p := by
  unfold idxOf
  cases h : w.findIdx? p with
  | none =>
    rw [List.findIdx?_eq_none_iff] at h
    simp only [show ¬ ((0:Int) ≤ -1) by decide, decide_false]
    symm
    rw [List.any_eq_false]
    exact fun x hx => by simp [h x hx]
  | some i =>
    rw [List.findIdx?_eq_some_iff_getElem] at h
    obtain ⟨h1, h2, _⟩ := h
    simp only [show (0:Int) ≤ (i:Int) by omega, decide_true]
    symm
    rw [List.any_eq_true]
    exact ⟨_, List.getElem_mem h1, h2⟩

theorem containsSS_c (w : Wd) (p : ByteArray → Bool) (g : FuncId) (caps : List D) (hp : ∀ x ∈ w, Fn Zs g (.str x :: caps) (.bool (p x))) :
    Fn Zs 36 [encSS w, .func g caps] (.bool (w.any p)) := by
  refine fn_of (Z := Zs) ok36 fun σ hcl hbl => ?_
  simp -dsimp only [L36, ↓preB, postB, genB, ↓reduceIte, Nat.reduceEqDiff, Int.reduceToNat, Int.reduceLE, Int.reduceLT, Nat.reduceAdd, Nat.reduceLeDiff, intBin, strBin, unD, extractD, lit1, lit2, lit3, keptD, boxR, D.one, D.pub1, D.cells, splice, cutOwn]
  refine Fn.use (indexSS_c w p g caps hp) ?_
  simp -dsimp only [↓preB, postB, genB, ↓reduceIte, Nat.reduceEqDiff, Int.reduceToNat, Int.reduceLE, Int.reduceLT, Nat.reduceAdd, Nat.reduceLeDiff, intBin, strBin, unD, extractD, lit1, lit2, lit3, keptD, boxR, D.one, D.pub1, D.cells, splice, cutOwn]
  exact Ret.is (by rw [← idxOf_any])

/-- What is wrong with a word: nothing (0), a text that is none (1), too much (3). -/
def badW (w : Wd) : Int := if decide (60 < w.length) || w.any (fun s => decide (16 < s.size)) then 3 else if w.any (fun s => !(bytesOK s && !(s == ⟨#[]⟩))) then 1 else 0

theorem symsValidateWord_c (w : Wd) : Fn Zs 23 [encSS w] (.int .i64 (badW w)) := by
  refine fn_of (Z := Zs) ok23 fun σ hcl hbl => ?_
  simp -dsimp only [L23, encSS, ↓preB, postB, genB, ↓reduceIte, Nat.reduceEqDiff, Int.reduceToNat, Int.reduceLE, Int.reduceLT, Nat.reduceAdd, Nat.reduceLeDiff, intBin, strBin, unD, extractD, lit1, lit2, lit3, keptD, boxR, D.one, D.pub1, D.cells, splice, cutOwn]
  intro hbig
  by_cases c1 : (60 : Int) < w.length
  · simp -dsimp only [c1, ↓preB, postB, genB, ↓reduceIte, Nat.reduceEqDiff, Int.reduceToNat, Int.reduceLE, Int.reduceLT, Nat.reduceAdd, Nat.reduceLeDiff, intBin, strBin, unD, extractD, lit1, lit2, lit3, keptD, boxR, D.one, D.pub1, D.cells, splice, cutOwn]
    exact Ret.is (by rw [badW, if_pos (by simp; left; omega)])
  · simp -dsimp only [c1, ↓preB, postB, genB, ↓reduceIte, Nat.reduceEqDiff, Int.reduceToNat, Int.reduceLE, Int.reduceLT, Nat.reduceAdd, Nat.reduceLeDiff, intBin, strBin, unD, extractD, lit1, lit2, lit3, keptD, boxR, D.one, D.pub1, D.cells, splice, cutOwn]
    refine Fn.use (containsSS_c w _ 37 [] (fun x hx => isLong_c x)) ?_
    cases c2 : w.any (fun s => decide (16 < s.size))
    · simp -dsimp only [c1, ↓preB, postB, genB, ↓reduceIte, Nat.reduceEqDiff, Int.reduceToNat, Int.reduceLE, Int.reduceLT, Nat.reduceAdd, Nat.reduceLeDiff, intBin, strBin, unD, extractD, lit1, lit2, lit3, keptD, boxR, D.one, D.pub1, D.cells, splice, cutOwn]
      refine Fn.use (containsSS_c w _ 38 [] (fun x hx => notSym_c x)) ?_
      have h3 : (decide (60 < w.length) || w.any (fun s => decide (16 < s.size))) = false := by rw [c2]; simp; omega
      cases c3 : w.any (fun s => !(bytesOK s && !(s == ⟨#[]⟩))) <;> simp -dsimp only [c1, ↓preB, postB, genB, ↓reduceIte, Nat.reduceEqDiff, Int.reduceToNat, Int.reduceLE, Int.reduceLT, Nat.reduceAdd, Nat.reduceLeDiff, intBin, strBin, unD, extractD, lit1, lit2, lit3, keptD, boxR, D.one, D.pub1, D.cells, splice, cutOwn]
      · exact Ret.is (by rw [badW, h3, c3]; rfl)
      · exact Ret.is (by rw [badW, h3, c3]; rfl)
    · simp -dsimp only [c1, ↓preB, postB, genB, ↓reduceIte, Nat.reduceEqDiff, Int.reduceToNat, Int.reduceLE, Int.reduceLT, Nat.reduceAdd, Nat.reduceLeDiff, intBin, strBin, unD, extractD, lit1, lit2, lit3, keptD, boxR, D.one, D.pub1, D.cells, splice, cutOwn]
      exact Ret.is (by simp [badW, c2])

theorem ba_eq {a b : ByteArray} (h : (a == b) = true) : a = b := by
  cases a with
  | mk a => cases b with
    | mk b =>
      have : (a == b) = true := h
      rw [eq_of_beq this]
end Go.Proofs.YthchlpikcpidaaaDoor.Vs
