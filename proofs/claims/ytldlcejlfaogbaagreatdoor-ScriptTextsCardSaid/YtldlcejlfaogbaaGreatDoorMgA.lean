import Derived.Test.YtldlcejlfaogbaaGreatDoorDmIr
import Derived.Test.YtldlcejlfaogbaaGreatDoorDmGen
/- What the small functions on symbols and words come to. -/
namespace Go.Proofs.YtldlcejlfaogbaaGreatDoor.Vs
set_option linter.unusedVariables false
set_option linter.unusedSimpArgs false
set_option maxRecDepth 20000
abbrev Wd := List ByteArray
def encSS (w : Wd) : D := .sl .no w.length (w.map .str)
def idxOf {α : Type} (p : α → Bool) (w : List α) : Int := match w.findIdx? p with | some i => i | none => -1
def badI (n : Int) : Bool := decide (n < 33) || (decide (n > 126) || (n == 60 || n == 62))
def bytesOK (s : ByteArray) : Bool := (List.range s.size).all fun i => !badI (byteAt s i)
def symOK (s : ByteArray) : Bool := bytesOK s && (decide (1 ≤ s.size) && decide (s.size ≤ 16))
theorem bytesOK_true {s : ByteArray} (h : ∀ j, j < s.size → badI (byteAt s j) = false) : bytesOK s = true := by
  simp only [bytesOK, List.all_eq_true, List.mem_range]
  intro j hj
  simp [h j hj]
theorem bytesOK_false {s : ByteArray} {j : Nat} (hj : j < s.size) (h : badI (byteAt s j) = true) : bytesOK s = false := by
  simp only [bytesOK, List.all_eq_false, List.mem_range]
  exact ⟨j, hj, by simp [h]⟩

theorem isSymbol_c (s : ByteArray) : Fn Zs 94 [.str s] (.bool (bytesOK s && !(s == ⟨#[]⟩))) := by
  refine fn_of (Z := Zs) ok94 fun σ hcl hbl => ?_
  simp -dsimp only [L94, ↓preB, postB, genB, ↓reduceIte, Nat.reduceEqDiff, Int.reduceToNat, Int.reduceLE, Int.reduceLT, Nat.reduceAdd, Nat.reduceLeDiff, intBin, strBin, unD, extractD, lit1, lit2, lit3, keptD, boxR, D.one, D.pub1, D.cells, splice, cutOwn]
  intro hbig
  refine pwp_loopG (fun k env s' => k ≤ s.size ∧ (∀ j, j < k → badI (byteAt s j) = false) ∧ s' = σ ∧ env 6 = .int .i64 (k:Nat) ∧ env 5 = .int .i64 s.size ∧ env 0 = .str s) (fun k => s.size - k) 0 ?_ ?_
  · simp [upd_apply, envOf]
  · rintro k env s' ⟨hk, hp, rfl, h6, h5, h0⟩
    rcases Nat.lt_or_ge k s.size with hlt | hge
    · have hb : ∀ c, badI (byteAt s k) = c → c = true → (false = (bytesOK s && !(s == ⟨#[]⟩))) := fun c h1 h2 => by
        rw [bytesOK_false hlt (h1.trans h2)]; rfl
      by_cases c1 : byteAt s k < 33
      · simp -dsimp only [h0, h5, h6, hlt, c1, ↓preB, postB, genB, ↓reduceIte, Nat.reduceEqDiff, Int.reduceToNat, Int.reduceLE, Int.reduceLT, Nat.reduceAdd, Nat.reduceLeDiff, intBin, strBin, unD, extractD, lit1, lit2, lit3, keptD, boxR, D.one, D.pub1, D.cells, splice, cutOwn]
        exact Ret.is (by rw [bytesOK_false hlt (by simp [badI, c1])]; rfl)
      by_cases c2 : byteAt s k > 126
      · simp -dsimp only [h0, h5, h6, hlt, c1, c2, ↓preB, postB, genB, ↓reduceIte, Nat.reduceEqDiff, Int.reduceToNat, Int.reduceLE, Int.reduceLT, Nat.reduceAdd, Nat.reduceLeDiff, intBin, strBin, unD, extractD, lit1, lit2, lit3, keptD, boxR, D.one, D.pub1, D.cells, splice, cutOwn]
        exact Ret.is (by rw [bytesOK_false hlt (by simp [badI, c2])]; rfl)
      by_cases c3 : (byteAt s k == 60) = true
      · simp -dsimp only [h0, h5, h6, hlt, c1, c2, c3, ↓preB, postB, genB, ↓reduceIte, Nat.reduceEqDiff, Int.reduceToNat, Int.reduceLE, Int.reduceLT, Nat.reduceAdd, Nat.reduceLeDiff, intBin, strBin, unD, extractD, lit1, lit2, lit3, keptD, boxR, D.one, D.pub1, D.cells, splice, cutOwn]
        exact Ret.is (by rw [bytesOK_false hlt (by simp [badI, c3])]; rfl)
      by_cases c4 : (byteAt s k == 62) = true
      · simp -dsimp only [h0, h5, h6, hlt, c1, c2, c3, c4, ↓preB, postB, genB, ↓reduceIte, Nat.reduceEqDiff, Int.reduceToNat, Int.reduceLE, Int.reduceLT, Nat.reduceAdd, Nat.reduceLeDiff, intBin, strBin, unD, extractD, lit1, lit2, lit3, keptD, boxR, D.one, D.pub1, D.cells, splice, cutOwn]
        exact Ret.is (by rw [bytesOK_false hlt (by simp [badI, c4])]; rfl)
      simp -dsimp only [h0, h5, h6, hlt, c1, c2, c3, c4, ↓preB, postB, genB, ↓reduceIte, Nat.reduceEqDiff, Int.reduceToNat, Int.reduceLE, Int.reduceLT, Nat.reduceAdd, Nat.reduceLeDiff, intBin, strBin, unD, extractD, lit1, lit2, lit3, keptD, boxR, D.one, D.pub1, D.cells, splice, cutOwn]
      have hk' : badI (byteAt s k) = false := by simp [badI, c1, c2, c3, c4]
      refine ⟨k + 1, ⟨by omega, fun j hj => ?_, wrap64_succ (by omega)⟩, by omega⟩
      rcases Nat.lt_succ_iff_lt_or_eq.1 hj with h | rfl
      · exact hp j h
      · exact hk'
    · simp -dsimp only [h0, h5, h6, Nat.not_lt.2 hge, ↓preB, postB, genB, ↓reduceIte, Nat.reduceEqDiff, Int.reduceToNat, Int.reduceLE, Int.reduceLT, Nat.reduceAdd, Nat.reduceLeDiff, intBin, strBin, unD, extractD, lit1, lit2, lit3, keptD, boxR, D.one, D.pub1, D.cells, splice, cutOwn]
      exact Ret.is (by rw [bytesOK_true (fun j hj => hp j (by omega))]; rfl)

theorem IsSymbol_c (s : ByteArray) : Fn Zs 148 [.str s] (.bool (symOK s)) := by
  refine fn_of (Z := Zs) ok148 fun σ hcl hbl => ?_
  simp -dsimp only [L148, ↓preB, postB, genB, ↓reduceIte, Nat.reduceEqDiff, Int.reduceToNat, Int.reduceLE, Int.reduceLT, Nat.reduceAdd, Nat.reduceLeDiff, intBin, strBin, unD, extractD, lit1, lit2, lit3, keptD, boxR, D.one, D.pub1, D.cells, splice, cutOwn]
  refine pwp_loopG (fun k env s' => k ≤ s.size ∧ (∀ j, j < k → badI (byteAt s j) = false) ∧ s' = σ ∧ env 3 = .int .i64 (k:Nat) ∧ env 0 = .str s) (fun k => s.size - k) 0 ?_ ?_
  · simp [upd_apply, envOf]
  · rintro k env s' ⟨hk, hp, rfl, h3, h0⟩
    rcases Nat.lt_or_ge k s.size with hlt | hge
    · by_cases c1 : byteAt s k < 33
      · simp -dsimp only [h0, h3, hlt, c1, ↓preB, postB, genB, ↓reduceIte, Nat.reduceEqDiff, Int.reduceToNat, Int.reduceLE, Int.reduceLT, Nat.reduceAdd, Nat.reduceLeDiff, intBin, strBin, unD, extractD, lit1, lit2, lit3, keptD, boxR, D.one, D.pub1, D.cells, splice, cutOwn]
        exact fun _ => Ret.is (by rw [symOK, bytesOK_false hlt (by simp [badI, c1])]; rfl)
      by_cases c2 : byteAt s k > 126
      · simp -dsimp only [h0, h3, hlt, c1, c2, ↓preB, postB, genB, ↓reduceIte, Nat.reduceEqDiff, Int.reduceToNat, Int.reduceLE, Int.reduceLT, Nat.reduceAdd, Nat.reduceLeDiff, intBin, strBin, unD, extractD, lit1, lit2, lit3, keptD, boxR, D.one, D.pub1, D.cells, splice, cutOwn]
        exact fun _ => Ret.is (by rw [symOK, bytesOK_false hlt (by simp [badI, c2])]; rfl)
      by_cases c3 : (byteAt s k == 60) = true
      · simp -dsimp only [h0, h3, hlt, c1, c2, c3, ↓preB, postB, genB, ↓reduceIte, Nat.reduceEqDiff, Int.reduceToNat, Int.reduceLE, Int.reduceLT, Nat.reduceAdd, Nat.reduceLeDiff, intBin, strBin, unD, extractD, lit1, lit2, lit3, keptD, boxR, D.one, D.pub1, D.cells, splice, cutOwn]
        exact fun _ => Ret.is (by rw [symOK, bytesOK_false hlt (by simp [badI, c3])]; rfl)
      by_cases c4 : (byteAt s k == 62) = true
      · simp -dsimp only [h0, h3, hlt, c1, c2, c3, c4, ↓preB, postB, genB, ↓reduceIte, Nat.reduceEqDiff, Int.reduceToNat, Int.reduceLE, Int.reduceLT, Nat.reduceAdd, Nat.reduceLeDiff, intBin, strBin, unD, extractD, lit1, lit2, lit3, keptD, boxR, D.one, D.pub1, D.cells, splice, cutOwn]
        exact fun _ => Ret.is (by rw [symOK, bytesOK_false hlt (by simp [badI, c4])]; rfl)
      simp -dsimp only [h0, h3, hlt, c1, c2, c3, c4, ↓preB, postB, genB, ↓reduceIte, Nat.reduceEqDiff, Int.reduceToNat, Int.reduceLE, Int.reduceLT, Nat.reduceAdd, Nat.reduceLeDiff, intBin, strBin, unD, extractD, lit1, lit2, lit3, keptD, boxR, D.one, D.pub1, D.cells, splice, cutOwn]
      intro hbig
      have hk' : badI (byteAt s k) = false := by simp [badI, c1, c2, c3, c4]
      refine ⟨k + 1, ⟨by omega, fun j hj => ?_, wrap64_succ (by omega)⟩, by omega⟩
      rcases Nat.lt_succ_iff_lt_or_eq.1 hj with h | rfl
      · exact hp j h
      · exact hk'
    · have hb := bytesOK_true (fun j hj => hp j (by omega))
      by_cases c1 : (1:Int) ≤ (s.size:Int)
      · simp -dsimp only [h0, h3, Nat.not_lt.2 hge, c1, ↓preB, postB, genB, ↓reduceIte, Nat.reduceEqDiff, Int.reduceToNat, Int.reduceLE, Int.reduceLT, Nat.reduceAdd, Nat.reduceLeDiff, intBin, strBin, unD, extractD, lit1, lit2, lit3, keptD, boxR, D.one, D.pub1, D.cells, splice, cutOwn]
        intros; exact Ret.is (by
          have h1 : 1 ≤ s.size := by omega
          have h2 : decide ((s.size:Int) ≤ 16) = decide (s.size ≤ 16) := by rw [decide_eq_decide]; omega
          simp [symOK, hb, h1, h2])
      · simp -dsimp only [h0, h3, Nat.not_lt.2 hge, c1, ↓preB, postB, genB, ↓reduceIte, Nat.reduceEqDiff, Int.reduceToNat, Int.reduceLE, Int.reduceLT, Nat.reduceAdd, Nat.reduceLeDiff, intBin, strBin, unD, extractD, lit1, lit2, lit3, keptD, boxR, D.one, D.pub1, D.cells, splice, cutOwn]
        intros; exact Ret.is (by simp [symOK, hb]; omega)

theorem isLong_c (s : ByteArray) : Fn Zs 93 [.str s] (.bool (decide (16 < s.size))) := by
  refine fn_of (Z := Zs) ok93 fun σ hcl hbl => ?_
  simp -dsimp only [L93, ↓preB, postB, genB, ↓reduceIte, Nat.reduceEqDiff, Int.reduceToNat, Int.reduceLE, Int.reduceLT, Nat.reduceAdd, Nat.reduceLeDiff, intBin, strBin, unD, extractD, lit1, lit2, lit3, keptD, boxR, D.one, D.pub1, D.cells, splice, cutOwn]
  exact fun _ => Ret.is (by congr 1; simp; omega)
theorem notSym_c (s : ByteArray) : Fn Zs 141 [.str s] (.bool (!(bytesOK s && !(s == ⟨#[]⟩)))) := by
  refine fn_of (Z := Zs) ok141 fun σ hcl hbl => ?_
  simp -dsimp only [L141, ↓preB, postB, genB, ↓reduceIte, Nat.reduceEqDiff, Int.reduceToNat, Int.reduceLE, Int.reduceLT, Nat.reduceAdd, Nat.reduceLeDiff, intBin, strBin, unD, extractD, lit1, lit2, lit3, keptD, boxR, D.one, D.pub1, D.cells, splice, cutOwn]
  refine Fn.use (isSymbol_c s) ?_
  simp -dsimp only [↓preB, postB, genB, ↓reduceIte, Nat.reduceEqDiff, Int.reduceToNat, Int.reduceLE, Int.reduceLT, Nat.reduceAdd, Nat.reduceLeDiff, intBin, strBin, unD, extractD, lit1, lit2, lit3, keptD, boxR, D.one, D.pub1, D.cells, splice, cutOwn]
  exact Ret.is rfl

theorem indexSS_c (w : Wd) (p : ByteArray → Bool) (g : FuncId) (caps : List D) (hp : ∀ x ∈ w, Fn Zs g (.str x :: caps) (.bool (p x))) :
    Fn Zs 142 [encSS w, .func g caps] (.int .i64 (idxOf p w)) := by
  refine fn_of (Z := Zs) ok142 fun σ hcl hbl => ?_
  simp -dsimp only [L142, encSS, ↓preB, postB, genB, ↓reduceIte, Nat.reduceEqDiff, Int.reduceToNat, Int.reduceLE, Int.reduceLT, Nat.reduceAdd, Nat.reduceLeDiff, intBin, strBin, unD, extractD, lit1, lit2, lit3, keptD, boxR, D.one, D.pub1, D.cells, splice, cutOwn]
  intro hbig
  refine pwp_loopG (fun k env s => k ≤ w.length ∧ (∀ j (h : j < w.length), j < k → p w[j] = false) ∧ s = σ ∧ env 8 = .int .i64 (k:Nat) ∧ env 7 = .int .i64 w.length ∧ env 0 = encSS w ∧ env 1 = .func g caps) (fun k => w.length - k) 0 ?_ ?_
  · simp [upd_apply, envOf, encSS]
  · rintro k env s ⟨hk, hp', rfl, h8, h7, h0, h1⟩
    rcases Nat.lt_or_ge k w.length with hlt | hge
    · have hx : w[k]? = some w[k] := List.getElem?_eq_getElem hlt
      simp -dsimp only [h8, h7, h0, h1, encSS, hlt, hx, ↓preB, postB, genB, ↓reduceIte, Nat.reduceEqDiff, Int.reduceToNat, Int.reduceLE, Int.reduceLT, Nat.reduceAdd, Nat.reduceLeDiff, intBin, strBin, unD, extractD, lit1, lit2, lit3, keptD, boxR, D.one, D.pub1, D.cells, splice, cutOwn]
      refine ⟨by omega, Fn.use (hp _ (List.getElem_mem hlt)) ?_⟩
      cases hq : p w[k] <;> simp -dsimp only [h8, h7, h0, h1, hq, ↓preB, postB, genB, ↓reduceIte, Nat.reduceEqDiff, Int.reduceToNat, Int.reduceLE, Int.reduceLT, Nat.reduceAdd, Nat.reduceLeDiff, intBin, strBin, unD, extractD, lit1, lit2, lit3, keptD, boxR, D.one, D.pub1, D.cells, splice, cutOwn]
      · refine ⟨k + 1, ⟨by omega, fun j hj hjk => ?_, wrap64_succ (by omega)⟩, by omega⟩
        rcases Nat.lt_succ_iff_lt_or_eq.1 hjk with h | rfl
        · exact hp' j hj h
        · exact hq
      · refine Ret.is ?_
        have : w.findIdx? p = some k := by
          rw [List.findIdx?_eq_some_iff_getElem]
          exact ⟨hlt, hq, fun j hj => by simp [hp' j (by omega) hj]⟩
        simp [idxOf, this]
    · simp -dsimp only [h8, h7, h0, h1, encSS, Nat.not_lt.2 hge, ↓preB, postB, genB, ↓reduceIte, Nat.reduceEqDiff, Int.reduceToNat, Int.reduceLE, Int.reduceLT, Nat.reduceAdd, Nat.reduceLeDiff, intBin, strBin, unD, extractD, lit1, lit2, lit3, keptD, boxR, D.one, D.pub1, D.cells, splice, cutOwn]
      refine Ret.is ?_
      have : w.findIdx? p = none := by
        rw [List.findIdx?_eq_none_iff]
        intro x hx
        obtain ⟨j, hj, rfl⟩ := List.getElem_of_mem hx
        exact hp' j hj (by omega)
      simp [idxOf, this]

theorem idxOf_any {α : Type} (p : α → Bool) (w : List α) : decide (0 ≤ idxOf p w) = w.any p := by
  unfold idxOf
  cases h : w.findIdx? p with
  | none =>
    rw [List.findIdx?_eq_none_iff] at h
    simp only [show ¬ ((0:Int) ≤ -1) by decide, decide_false]
    symm
    rw [List.any_eq_false]
    exact fun x hx => by simp [h x hx]
  | some i =>
    rw [List.findIdx?_eq_some_iff_getElem] at h
    obtain ⟨h1, h2, _⟩ := h
    simp only [show (0:Int) ≤ (i:Int) by omega, decide_true]
    symm
    rw [List.any_eq_true]
    exact ⟨_, List.getElem_mem h1, h2⟩

theorem containsSS_c (w : Wd) (p : ByteArray → Bool) (g : FuncId) (caps : List D) (hp : ∀ x ∈ w, Fn Zs g (.str x :: caps) (.bool (p x))) :
    Fn Zs 92 [encSS w, .func g caps] (.bool (w.any p)) := by
  refine fn_of (Z := Zs) ok92 fun σ hcl hbl => ?_
  simp -dsimp only [L92, ↓preB, postB, genB, ↓reduceIte, Nat.reduceEqDiff, Int.reduceToNat, Int.reduceLE, Int.reduceLT, Nat.reduceAdd, Nat.reduceLeDiff, intBin, strBin, unD, extractD, lit1, lit2, lit3, keptD, boxR, D.one, D.pub1, D.cells, splice, cutOwn]
  refine Fn.use (indexSS_c w p g caps hp) ?_
  simp -dsimp only [↓preB, postB, genB, ↓reduceIte, Nat.reduceEqDiff, Int.reduceToNat, Int.reduceLE, Int.reduceLT, Nat.reduceAdd, Nat.reduceLeDiff, intBin, strBin, unD, extractD, lit1, lit2, lit3, keptD, boxR, D.one, D.pub1, D.cells, splice, cutOwn]
  exact Ret.is (by rw [← idxOf_any])

/-- What is wrong with a word: nothing (0), a text that is none (1), too much (3). -/
def badW (w : Wd) : Int := if decide (60 < w.length) || w.any (fun s => decide (16 < s.size)) then 3 else if w.any (fun s => !(bytesOK s && !(s == ⟨#[]⟩))) then 1 else 0

theorem symsValidateWord_c (w : Wd) : Fn Zs 91 [encSS w] (.int .i64 (badW w)) := by
  refine fn_of (Z := Zs) ok91 fun σ hcl hbl => ?_
  simp -dsimp only [L91, encSS, ↓preB, postB, genB, ↓reduceIte, Nat.reduceEqDiff, Int.reduceToNat, Int.reduceLE, Int.reduceLT, Nat.reduceAdd, Nat.reduceLeDiff, intBin, strBin, unD, extractD, lit1, lit2, lit3, keptD, boxR, D.one, D.pub1, D.cells, splice, cutOwn]
  intro hbig
  by_cases c1 : (60 : Int) < w.length
  · simp -dsimp only [c1, ↓preB, postB, genB, ↓reduceIte, Nat.reduceEqDiff, Int.reduceToNat, Int.reduceLE, Int.reduceLT, Nat.reduceAdd, Nat.reduceLeDiff, intBin, strBin, unD, extractD, lit1, lit2, lit3, keptD, boxR, D.one, D.pub1, D.cells, splice, cutOwn]
    exact Ret.is (by rw [badW, if_pos (by simp; left; omega)])
  · simp -dsimp only [c1, ↓preB, postB, genB, ↓reduceIte, Nat.reduceEqDiff, Int.reduceToNat, Int.reduceLE, Int.reduceLT, Nat.reduceAdd, Nat.reduceLeDiff, intBin, strBin, unD, extractD, lit1, lit2, lit3, keptD, boxR, D.one, D.pub1, D.cells, splice, cutOwn]
    refine Fn.use (containsSS_c w _ 93 [] (fun x hx => isLong_c x)) ?_
    cases c2 : w.any (fun s => decide (16 < s.size))
    · simp -dsimp only [c1, ↓preB, postB, genB, ↓reduceIte, Nat.reduceEqDiff, Int.reduceToNat, Int.reduceLE, Int.reduceLT, Nat.reduceAdd, Nat.reduceLeDiff, intBin, strBin, unD, extractD, lit1, lit2, lit3, keptD, boxR, D.one, D.pub1, D.cells, splice, cutOwn]
      refine Fn.use (containsSS_c w _ 141 [] (fun x hx => notSym_c x)) ?_
      have h3 : (decide (60 < w.length) || w.any (fun s => decide (16 < s.size))) = false := by rw [c2]; simp; omega
      cases c3 : w.any (fun s => !(bytesOK s && !(s == ⟨#[]⟩))) <;> simp -dsimp only [c1, ↓preB, postB, genB, ↓reduceIte, Nat.reduceEqDiff, Int.reduceToNat, Int.reduceLE, Int.reduceLT, Nat.reduceAdd, Nat.reduceLeDiff, intBin, strBin, unD, extractD, lit1, lit2, lit3, keptD, boxR, D.one, D.pub1, D.cells, splice, cutOwn]
      · exact Ret.is (by rw [badW, h3, c3]; rfl)
      · exact Ret.is (by rw [badW, h3, c3]; rfl)
    · simp -dsimp only [c1, ↓preB, postB, genB, ↓reduceIte, Nat.reduceEqDiff, Int.reduceToNat, Int.reduceLE, Int.reduceLT, Nat.reduceAdd, Nat.reduceLeDiff, intBin, strBin, unD, extractD, lit1, lit2, lit3, keptD, boxR, D.one, D.pub1, D.cells, splice, cutOwn]
      exact Ret.is (by simp [badW, c2])

theorem anyLong_c (w : Wd) : Fn Zs 101 [encSS w] (.bool (w.any (fun s => decide (16 < s.size)))) := by
  refine fn_of (Z := Zs) ok101 fun σ hcl hbl => ?_
  simp -dsimp only [L101, encSS, ↓preB, postB, genB, ↓reduceIte, Nat.reduceEqDiff, Int.reduceToNat, Int.reduceLE, Int.reduceLT, Nat.reduceAdd, Nat.reduceLeDiff, intBin, strBin, unD, extractD, lit1, lit2, lit3, keptD, boxR, D.one, D.pub1, D.cells, splice, cutOwn]
  refine pwp_loopG (fun k env s => k ≤ w.length ∧ (w.drop k).any (fun s => decide (16 < s.size)) = w.any (fun s => decide (16 < s.size)) ∧ s = σ ∧ env 3 = .int .i64 (k:Nat) ∧ env 0 = encSS w) (fun k => w.length - k) 0 ?_ ?_
  · simp [upd_apply, envOf, encSS]
  · rintro k env s ⟨hk, hp, rfl, h3, h0⟩
    rcases Nat.lt_or_ge k w.length with hlt | hge
    · have hx : w[k]? = some w[k] := List.getElem?_eq_getElem hlt
      rw [List.drop_eq_getElem_cons hlt, List.any_cons] at hp
      by_cases c1 : (16 : Int) < (w[k]).size
      · simp -dsimp only [h3, h0, encSS, hlt, hx, c1, ↓preB, postB, genB, ↓reduceIte, Nat.reduceEqDiff, Int.reduceToNat, Int.reduceLE, Int.reduceLT, Nat.reduceAdd, Nat.reduceLeDiff, intBin, strBin, unD, extractD, lit1, lit2, lit3, keptD, boxR, D.one, D.pub1, D.cells, splice, cutOwn]
        intros
        exact ⟨by omega, fun _ => Ret.is (by rw [← hp, show decide (16 < (w[k]).size) = true by simp; omega]; rfl)⟩
      · simp -dsimp only [h3, h0, encSS, hlt, hx, c1, ↓preB, postB, genB, ↓reduceIte, Nat.reduceEqDiff, Int.reduceToNat, Int.reduceLE, Int.reduceLT, Nat.reduceAdd, Nat.reduceLeDiff, intBin, strBin, unD, extractD, lit1, lit2, lit3, keptD, boxR, D.one, D.pub1, D.cells, splice, cutOwn]
        intro hbig
        refine ⟨by omega, fun _ => ⟨k + 1, ⟨by omega, ?_, wrap64_succ (by omega)⟩, by omega⟩⟩
        rw [← hp, show decide (16 < (w[k]).size) = false by simp; omega]; simp
    · simp -dsimp only [h3, h0, encSS, Nat.not_lt.2 hge, ↓preB, postB, genB, ↓reduceIte, Nat.reduceEqDiff, Int.reduceToNat, Int.reduceLE, Int.reduceLT, Nat.reduceAdd, Nat.reduceLeDiff, intBin, strBin, unD, extractD, lit1, lit2, lit3, keptD, boxR, D.one, D.pub1, D.cells, splice, cutOwn]
      intros
      refine Ret.is ?_
      rw [← hp, List.drop_of_length_le hge]; rfl

theorem allSymbols_c (w : Wd) : Fn Zs 102 [encSS w] (.bool (w.all symOK)) := by
  refine fn_of (Z := Zs) ok102 fun σ hcl hbl => ?_
  simp -dsimp only [L102, encSS, ↓preB, postB, genB, ↓reduceIte, Nat.reduceEqDiff, Int.reduceToNat, Int.reduceLE, Int.reduceLT, Nat.reduceAdd, Nat.reduceLeDiff, intBin, strBin, unD, extractD, lit1, lit2, lit3, keptD, boxR, D.one, D.pub1, D.cells, splice, cutOwn]
  refine pwp_loopG (fun k env s => k ≤ w.length ∧ (w.drop k).all symOK = w.all symOK ∧ s = σ ∧ env 3 = .int .i64 (k:Nat) ∧ env 0 = encSS w) (fun k => w.length - k) 0 ?_ ?_
  · simp [upd_apply, envOf, encSS]
  · rintro k env s ⟨hk, hp, rfl, h3, h0⟩
    rcases Nat.lt_or_ge k w.length with hlt | hge
    · have hx : w[k]? = some w[k] := List.getElem?_eq_getElem hlt
      rw [List.drop_eq_getElem_cons hlt, List.all_cons] at hp
      simp -dsimp only [h3, h0, encSS, hlt, hx, ↓preB, postB, genB, ↓reduceIte, Nat.reduceEqDiff, Int.reduceToNat, Int.reduceLE, Int.reduceLT, Nat.reduceAdd, Nat.reduceLeDiff, intBin, strBin, unD, extractD, lit1, lit2, lit3, keptD, boxR, D.one, D.pub1, D.cells, splice, cutOwn]
      intro hbig
      refine ⟨by omega, Fn.use (IsSymbol_c _) ?_⟩
      cases c1 : symOK w[k] <;> simp -dsimp only [h3, h0, encSS, hlt, hx, c1, ↓preB, postB, genB, ↓reduceIte, Nat.reduceEqDiff, Int.reduceToNat, Int.reduceLE, Int.reduceLT, Nat.reduceAdd, Nat.reduceLeDiff, intBin, strBin, unD, extractD, lit1, lit2, lit3, keptD, boxR, D.one, D.pub1, D.cells, splice, cutOwn]
      · exact Ret.is (by rw [← hp, c1]; rfl)
      · refine ⟨k + 1, ⟨by omega, ?_, wrap64_succ (by omega)⟩, by omega⟩
        rw [← hp, c1]; simp
    · simp -dsimp only [h3, h0, encSS, Nat.not_lt.2 hge, ↓preB, postB, genB, ↓reduceIte, Nat.reduceEqDiff, Int.reduceToNat, Int.reduceLE, Int.reduceLT, Nat.reduceAdd, Nat.reduceLeDiff, intBin, strBin, unD, extractD, lit1, lit2, lit3, keptD, boxR, D.one, D.pub1, D.cells, splice, cutOwn]
      intros
      refine Ret.is ?_
      rw [← hp, List.drop_of_length_le hge]; rfl

theorem ba_eq {a b : ByteArray} (h : (a == b) = true) : a = b := by
  cases a with
  | mk a => cases b with
    | mk b =>
      have : (a == b) = true := h
      rw [eq_of_beq this]
theorem bytes_sym {s : ByteArray} (h : ¬ 16 < s.size) : symOK s = (bytesOK s && !(s == ⟨#[]⟩)) := by
  have h1 : decide (s.size ≤ 16) = true := by simp; omega
  have h2 : decide (1 ≤ s.size) = !(s == ⟨#[]⟩) := by
    by_cases h0 : s = ⟨#[]⟩
    · subst h0; rfl
    · have : s.size ≠ 0 := fun hs => h0 (by
        cases s with
        | mk d => congr; exact Array.size_eq_zero_iff.1 hs)
      have h3 : decide (1 ≤ s.size) = true := by simp; omega
      have h5 : (s == (⟨#[]⟩ : ByteArray)) = false := by
        cases hq : (s == (⟨#[]⟩ : ByteArray)) with
        | false => rfl
        | true => exact absurd (ba_eq hq) h0
      rw [h3, h5]; rfl
  rw [symOK, h1, h2, Bool.and_true]

theorem refValidateWord_c (w : Wd) : Fn Zs 109 [encSS w] (.int .i64 (badW w)) := by
  refine fn_of (Z := Zs) ok109 fun σ hcl hbl => ?_
  simp -dsimp only [L109, encSS, ↓preB, postB, genB, ↓reduceIte, Nat.reduceEqDiff, Int.reduceToNat, Int.reduceLE, Int.reduceLT, Nat.reduceAdd, Nat.reduceLeDiff, intBin, strBin, unD, extractD, lit1, lit2, lit3, keptD, boxR, D.one, D.pub1, D.cells, splice, cutOwn]
  intro hbig
  by_cases c1 : (60 : Int) < w.length
  · simp -dsimp only [c1, ↓preB, postB, genB, ↓reduceIte, Nat.reduceEqDiff, Int.reduceToNat, Int.reduceLE, Int.reduceLT, Nat.reduceAdd, Nat.reduceLeDiff, intBin, strBin, unD, extractD, lit1, lit2, lit3, keptD, boxR, D.one, D.pub1, D.cells, splice, cutOwn]
    exact Ret.is (by rw [badW, if_pos (by simp; left; omega)])
  · simp -dsimp only [c1, ↓preB, postB, genB, ↓reduceIte, Nat.reduceEqDiff, Int.reduceToNat, Int.reduceLE, Int.reduceLT, Nat.reduceAdd, Nat.reduceLeDiff, intBin, strBin, unD, extractD, lit1, lit2, lit3, keptD, boxR, D.one, D.pub1, D.cells, splice, cutOwn]
    refine Fn.use (anyLong_c w) ?_
    cases c2 : w.any (fun s => decide (16 < s.size))
    · simp -dsimp only [c1, ↓preB, postB, genB, ↓reduceIte, Nat.reduceEqDiff, Int.reduceToNat, Int.reduceLE, Int.reduceLT, Nat.reduceAdd, Nat.reduceLeDiff, intBin, strBin, unD, extractD, lit1, lit2, lit3, keptD, boxR, D.one, D.pub1, D.cells, splice, cutOwn]
      refine Fn.use (allSymbols_c w) ?_
      have h3 : (decide (60 < w.length) || w.any (fun s => decide (16 < s.size))) = false := by rw [c2]; simp; omega
      have h4 : w.any (fun s => !(bytesOK s && !(s == ⟨#[]⟩))) = !(w.all symOK) := by
        rw [List.any_eq_false] at c2
        rw [← List.not_all_eq_any_not]
        congr 1
        apply Bool.eq_iff_iff.2
        simp only [List.all_eq_true]
        exact ⟨fun h x hx => by rw [bytes_sym (by simpa using c2 x hx)]; exact h x hx, fun h x hx => by rw [← bytes_sym (by simpa using c2 x hx)]; exact h x hx⟩
      cases c3 : w.all symOK <;> simp -dsimp only [c1, ↓preB, postB, genB, ↓reduceIte, Nat.reduceEqDiff, Int.reduceToNat, Int.reduceLE, Int.reduceLT, Nat.reduceAdd, Nat.reduceLeDiff, intBin, strBin, unD, extractD, lit1, lit2, lit3, keptD, boxR, D.one, D.pub1, D.cells, splice, cutOwn]
      · exact Ret.is (by rw [badW, h3, h4, c3]; rfl)
      · exact Ret.is (by rw [badW, h3, h4, c3]; rfl)
    · simp -dsimp only [c1, ↓preB, postB, genB, ↓reduceIte, Nat.reduceEqDiff, Int.reduceToNat, Int.reduceLE, Int.reduceLT, Nat.reduceAdd, Nat.reduceLeDiff, intBin, strBin, unD, extractD, lit1, lit2, lit3, keptD, boxR, D.one, D.pub1, D.cells, splice, cutOwn]
      exact Ret.is (by simp [badW, c2])
end Go.Proofs.YtldlcejlfaogbaaGreatDoor.Vs

/- What the functions on words, one against another, come to. -/
namespace Go.Proofs.YtldlcejlfaogbaaGreatDoor.Vs
set_option linter.unusedVariables false
set_option linter.unusedSimpArgs false
set_option maxRecDepth 20000
def ordW : Wd → Wd → Int
  | [], [] => 0
  | [], _ :: _ => -1
  | _ :: _, [] => 1
  | x :: a, y :: b => if strLt x y then -1 else if x == y then ordW a b else 1
def eqW : Wd → Wd → Bool
  | [], [] => true
  | x :: a, y :: b => (x == y) && eqW a b
  | _, _ => false
def begW : Wd → Wd → Bool
  | _, [] => true
  | [], _ :: _ => false
  | a :: w, x :: xs => (a == x) && begW w xs
def encLL (l : List Wd) : D := .sl .no l.length (l.map encSS)

theorem ba_refl (a : ByteArray) : (a == a) = true := by
  cases a with
  | mk a => exact (beq_self_eq_true a : (a == a) = true)
theorem eqW_iff : ∀ {a b : Wd}, eqW a b = true ↔ a = b
  | [], [] => by simp [eqW]
  | [], _ :: _ => by simp [eqW]
  | _ :: _, [] => by simp [eqW]
  | x :: a, y :: b => by
    simp only [eqW, Bool.and_eq_true, List.cons.injEq, eqW_iff (a := a) (b := b)]
    exact ⟨fun h => ⟨ba_eq h.1, h.2⟩, fun h => ⟨by rw [h.1]; exact ba_refl y, h.2⟩⟩

theorem Words_c (l : List Wd) : Fn Zs 57 [encLL l] (.int .i64 ((l.map badW).find? (fun e => e != 0) |>.getD 0)) := by
  refine fn_of (Z := Zs) ok57 fun σ hcl hbl => ?_
  simp -dsimp only [L57, encLL, ↓preB, postB, genB, ↓reduceIte, Nat.reduceEqDiff, Int.reduceToNat, Int.reduceLE, Int.reduceLT, Nat.reduceAdd, Nat.reduceLeDiff, intBin, strBin, unD, extractD, lit1, lit2, lit3, keptD, boxR, D.one, D.pub1, D.cells, splice, cutOwn]
  refine pwp_loopG (fun k env s => k ≤ l.length ∧ ((l.drop k).map badW).find? (fun e => e != 0) = (l.map badW).find? (fun e => e != 0) ∧ s = σ ∧ env 3 = .int .i64 (k:Nat) ∧ env 0 = encLL l) (fun k => l.length - k) 0 ?_ ?_
  · simp [upd_apply, envOf, encLL]
  · rintro k env s ⟨hk, hp, rfl, h3, h0⟩
    rcases Nat.lt_or_ge k l.length with hlt | hge
    · have hx : l[k]? = some l[k] := List.getElem?_eq_getElem hlt
      rw [List.drop_eq_getElem_cons hlt, List.map_cons, List.find?_cons] at hp
      simp -dsimp only [h3, h0, encLL, hlt, hx, ↓preB, postB, genB, ↓reduceIte, Nat.reduceEqDiff, Int.reduceToNat, Int.reduceLE, Int.reduceLT, Nat.reduceAdd, Nat.reduceLeDiff, intBin, strBin, unD, extractD, lit1, lit2, lit3, keptD, boxR, D.one, D.pub1, D.cells, splice, cutOwn]
      intro hbig
      refine ⟨by omega, Fn.use (refValidateWord_c _) ?_⟩
      by_cases c1 : badW l[k] = 0
      · have c2 : (badW l[k] != 0) = false := by simp [c1]
        simp -dsimp only [h3, h0, encLL, hlt, hx, c2, ↓preB, postB, genB, ↓reduceIte, Nat.reduceEqDiff, Int.reduceToNat, Int.reduceLE, Int.reduceLT, Nat.reduceAdd, Nat.reduceLeDiff, intBin, strBin, unD, extractD, lit1, lit2, lit3, keptD, boxR, D.one, D.pub1, D.cells, splice, cutOwn]
        simp only [c2] at hp
        exact ⟨k + 1, ⟨by omega, hp, wrap64_succ (by omega)⟩, by omega⟩
      · have c2 : (badW l[k] != 0) = true := by simp [c1]
        simp -dsimp only [h3, h0, encLL, hlt, hx, c2, ↓preB, postB, genB, ↓reduceIte, Nat.reduceEqDiff, Int.reduceToNat, Int.reduceLE, Int.reduceLT, Nat.reduceAdd, Nat.reduceLeDiff, intBin, strBin, unD, extractD, lit1, lit2, lit3, keptD, boxR, D.one, D.pub1, D.cells, splice, cutOwn]
        simp only [c2] at hp
        exact Ret.is (by rw [← hp]; rfl)
    · simp -dsimp only [h3, h0, encLL, Nat.not_lt.2 hge, ↓preB, postB, genB, ↓reduceIte, Nat.reduceEqDiff, Int.reduceToNat, Int.reduceLE, Int.reduceLT, Nat.reduceAdd, Nat.reduceLeDiff, intBin, strBin, unD, extractD, lit1, lit2, lit3, keptD, boxR, D.one, D.pub1, D.cells, splice, cutOwn]
      intros
      refine Ret.is ?_
      rw [← hp, List.drop_of_length_le hge]; rfl

theorem isNaN_c (s : ByteArray) : Fn Zs 160 [.str s] (.bool false) := by
  refine fn_of (Z := Zs) ok160 fun σ hcl hbl => ?_
  simp -dsimp only [L160, ↓preB, postB, genB, ↓reduceIte, Nat.reduceEqDiff, Int.reduceToNat, Int.reduceLE, Int.reduceLT, Nat.reduceAdd, Nat.reduceLeDiff, intBin, strBin, unD, extractD, lit1, lit2, lit3, keptD, boxR, D.one, D.pub1, D.cells, splice, cutOwn]
  exact Ret.is (by simp [ba_refl])

def cmpS (x y : ByteArray) : Int := if strLt x y then -1 else if x == y then 0 else 1
theorem cmp_c (x y : ByteArray) : Fn Zs 113 [.str x, .str y] (.int .i64 (cmpS x y)) := by
  refine fn_of (Z := Zs) ok113 fun σ hcl hbl => ?_
  simp -dsimp only [L113, ↓preB, postB, genB, ↓reduceIte, Nat.reduceEqDiff, Int.reduceToNat, Int.reduceLE, Int.reduceLT, Nat.reduceAdd, Nat.reduceLeDiff, intBin, strBin, unD, extractD, lit1, lit2, lit3, keptD, boxR, D.one, D.pub1, D.cells, splice, cutOwn]
  refine Fn.use (isNaN_c x) ?_
  simp -dsimp only [↓preB, postB, genB, ↓reduceIte, Nat.reduceEqDiff, Int.reduceToNat, Int.reduceLE, Int.reduceLT, Nat.reduceAdd, Nat.reduceLeDiff, intBin, strBin, unD, extractD, lit1, lit2, lit3, keptD, boxR, D.one, D.pub1, D.cells, splice, cutOwn]
  refine Fn.use (isNaN_c y) ?_
  cases c1 : strLt x y
  · cases c2 : (x == y)
    · simp -dsimp only [c1, c2, Bool.or_false, ↓preB, postB, genB, ↓reduceIte, Nat.reduceEqDiff, Int.reduceToNat, Int.reduceLE, Int.reduceLT, Nat.reduceAdd, Nat.reduceLeDiff, intBin, strBin, unD, extractD, lit1, lit2, lit3, keptD, boxR, D.one, D.pub1, D.cells, splice, cutOwn]
      exact Ret.is (by simp [cmpS, c1, c2])
    · simp -dsimp only [c1, c2, Bool.or_true, ↓preB, postB, genB, ↓reduceIte, Nat.reduceEqDiff, Int.reduceToNat, Int.reduceLE, Int.reduceLT, Nat.reduceAdd, Nat.reduceLeDiff, intBin, strBin, unD, extractD, lit1, lit2, lit3, keptD, boxR, D.one, D.pub1, D.cells, splice, cutOwn]
      exact Ret.is (by simp [cmpS, c1, c2])
  · simp -dsimp only [c1, ↓preB, postB, genB, ↓reduceIte, Nat.reduceEqDiff, Int.reduceToNat, Int.reduceLE, Int.reduceLT, Nat.reduceAdd, Nat.reduceLeDiff, intBin, strBin, unD, extractD, lit1, lit2, lit3, keptD, boxR, D.one, D.pub1, D.cells, splice, cutOwn]
    exact Ret.is (by simp [cmpS, c1])

theorem ordW_cons {x y : ByteArray} {a b : Wd} : ordW (x :: a) (y :: b) = if cmpS x y = 0 then ordW a b else cmpS x y := by
  unfold cmpS
  simp only [ordW]
  cases strLt x y <;> cases (x == y) <;> simp

theorem Order_c (a b : Wd) : Fn Zs 51 [encSS a, encSS b] (.int .i64 (ordW a b)) := by
  refine fn_of (Z := Zs) ok51 fun σ hcl hbl => ?_
  simp -dsimp only [L51, encSS, ↓preB, postB, genB, ↓reduceIte, Nat.reduceEqDiff, Int.reduceToNat, Int.reduceLE, Int.reduceLT, Nat.reduceAdd, Nat.reduceLeDiff, intBin, strBin, unD, extractD, lit1, lit2, lit3, keptD, boxR, D.one, D.pub1, D.cells, splice, cutOwn]
  refine pwp_loopG (fun k env s => k ≤ a.length ∧ k ≤ b.length ∧ ordW (a.drop k) (b.drop k) = ordW a b ∧ s = σ ∧ env 5 = .int .i64 (k:Nat) ∧ env 0 = encSS a ∧ env 1 = encSS b) (fun k => a.length - k) 0 ?_ ?_
  · simp [upd_apply, envOf, encSS]
  · rintro k env s ⟨hk, hk', hp, rfl, h5, h0, h1⟩
    rcases Nat.lt_or_ge k a.length with hlt | hge
    · rcases Nat.lt_or_ge k b.length with hlt' | hge'
      · have hx : a[k]? = some a[k] := List.getElem?_eq_getElem hlt
        have hy : b[k]? = some b[k] := List.getElem?_eq_getElem hlt'
        rw [List.drop_eq_getElem_cons hlt, List.drop_eq_getElem_cons hlt', ordW_cons] at hp
        simp -dsimp only [h5, h0, h1, encSS, hlt, hlt', ↓preB, postB, genB, ↓reduceIte, Nat.reduceEqDiff, Int.reduceToNat, Int.reduceLE, Int.reduceLT, Nat.reduceAdd, Nat.reduceLeDiff, intBin, strBin, unD, extractD, lit1, lit2, lit3, keptD, boxR, D.one, D.pub1, D.cells, splice, cutOwn]
        intro hb1 hb2
        refine draw_s ?_
        cases c1 : strLt a[k] b[k]
        · simp -dsimp only [h5, h0, h1, encSS, hlt, hlt', hx, hy, c1, ↓preB, postB, genB, ↓reduceIte, Nat.reduceEqDiff, Int.reduceToNat, Int.reduceLE, Int.reduceLT, Nat.reduceAdd, Nat.reduceLeDiff, intBin, strBin, unD, extractD, lit1, lit2, lit3, keptD, boxR, D.one, D.pub1, D.cells, splice, cutOwn]
          refine ⟨by omega, by omega, draw_s ?_⟩
          cases c2 : (a[k] == b[k])
          · simp -dsimp only [h5, h0, h1, encSS, hlt, hlt', hx, hy, c1, c2, Bool.or_false, ↓preB, postB, genB, ↓reduceIte, Nat.reduceEqDiff, Int.reduceToNat, Int.reduceLE, Int.reduceLT, Nat.reduceAdd, Nat.reduceLeDiff, intBin, strBin, unD, extractD, lit1, lit2, lit3, keptD, boxR, D.one, D.pub1, D.cells, splice, cutOwn]
            exact ⟨by omega, by omega, Ret.is (by rw [← hp]; simp [cmpS, c1, c2])⟩
          · simp -dsimp only [h5, h0, h1, encSS, hlt, hlt', hx, hy, c1, c2, Bool.or_true, ↓preB, postB, genB, ↓reduceIte, Nat.reduceEqDiff, Int.reduceToNat, Int.reduceLE, Int.reduceLT, Nat.reduceAdd, Nat.reduceLeDiff, intBin, strBin, unD, extractD, lit1, lit2, lit3, keptD, boxR, D.one, D.pub1, D.cells, splice, cutOwn]
            refine ⟨by omega, by omega, k + 1, ⟨by omega, by omega, ?_, wrap64_succ (by omega)⟩, by omega⟩
            rw [← hp]; simp [cmpS, c1, c2]
        · simp -dsimp only [h5, h0, h1, encSS, hlt, hlt', hx, hy, c1, ↓preB, postB, genB, ↓reduceIte, Nat.reduceEqDiff, Int.reduceToNat, Int.reduceLE, Int.reduceLT, Nat.reduceAdd, Nat.reduceLeDiff, intBin, strBin, unD, extractD, lit1, lit2, lit3, keptD, boxR, D.one, D.pub1, D.cells, splice, cutOwn]
          exact ⟨by omega, by omega, Ret.is (by rw [← hp]; simp [cmpS, c1])⟩
      · have hl : b.length < a.length := by omega
        have hl2 : ¬ a.length < b.length := by omega
        simp -dsimp only [h5, h0, h1, encSS, hlt, Nat.not_lt.2 hge', hl, hl2, ↓preB, postB, genB, ↓reduceIte, Nat.reduceEqDiff, Int.reduceToNat, Int.reduceLE, Int.reduceLT, Nat.reduceAdd, Nat.reduceLeDiff, intBin, strBin, unD, extractD, lit1, lit2, lit3, keptD, boxR, D.one, D.pub1, D.cells, splice, cutOwn]
        intros
        refine Ret.is ?_
        rw [← hp, List.drop_of_length_le hge', List.drop_eq_getElem_cons hlt]; rfl
    · by_cases hl : a.length < b.length
      · simp -dsimp only [h5, h0, h1, encSS, Nat.not_lt.2 hge, hl, ↓preB, postB, genB, ↓reduceIte, Nat.reduceEqDiff, Int.reduceToNat, Int.reduceLE, Int.reduceLT, Nat.reduceAdd, Nat.reduceLeDiff, intBin, strBin, unD, extractD, lit1, lit2, lit3, keptD, boxR, D.one, D.pub1, D.cells, splice, cutOwn]
        intros
        refine Ret.is ?_
        rw [← hp, List.drop_of_length_le hge, List.drop_eq_getElem_cons (by omega : k < b.length)]; rfl
      · have hl2 : ¬ b.length < a.length := by omega
        simp -dsimp only [h5, h0, h1, encSS, Nat.not_lt.2 hge, hl, hl2, ↓preB, postB, genB, ↓reduceIte, Nat.reduceEqDiff, Int.reduceToNat, Int.reduceLE, Int.reduceLT, Nat.reduceAdd, Nat.reduceLeDiff, intBin, strBin, unD, extractD, lit1, lit2, lit3, keptD, boxR, D.one, D.pub1, D.cells, splice, cutOwn]
        intros
        refine Ret.is ?_
        rw [← hp, List.drop_of_length_le hge, List.drop_of_length_le (by omega)]; rfl
end Go.Proofs.YtldlcejlfaogbaaGreatDoor.Vs

/- What the functions on words that begin with others come to. -/
namespace Go.Proofs.YtldlcejlfaogbaaGreatDoor.Vs
set_option linter.unusedVariables false
set_option linter.unusedSimpArgs false
set_option maxRecDepth 20000
theorem bl_irrefl : ∀ l : List UInt8, Op.bytesLess l l = false
  | [] => rfl
  | x :: l => by
    have := bl_irrefl l
    simp [Op.bytesLess, this]
theorem strLt_irrefl (s : ByteArray) : strLt s s = false := bl_irrefl _

theorem ordW_eqW : ∀ (a b : Wd), (ordW a b == 0) = eqW a b
  | [], [] => rfl
  | [], _ :: _ => rfl
  | _ :: _, [] => rfl
  | x :: a, y :: b => by
    have ih := ordW_eqW a b
    simp only [ordW, eqW]
    cases c2 : (x == y)
    · cases c1 : strLt x y <;> simp
    · have := ba_eq c2
      subst this
      simp [strLt_irrefl, ih]

theorem Same_c (a b : Wd) : Fn Zs 15 [encSS a, encSS b] (.bool (eqW a b)) := by
  refine fn_of (Z := Zs) ok15 fun σ hcl hbl => ?_
  simp -dsimp only [L15, ↓preB, postB, genB, ↓reduceIte, Nat.reduceEqDiff, Int.reduceToNat, Int.reduceLE, Int.reduceLT, Nat.reduceAdd, Nat.reduceLeDiff, intBin, strBin, unD, extractD, lit1, lit2, lit3, keptD, boxR, D.one, D.pub1, D.cells, splice, cutOwn]
  refine Fn.use (Order_c a b) ?_
  simp -dsimp only [↓preB, postB, genB, ↓reduceIte, Nat.reduceEqDiff, Int.reduceToNat, Int.reduceLE, Int.reduceLT, Nat.reduceAdd, Nat.reduceLeDiff, intBin, strBin, unD, extractD, lit1, lit2, lit3, keptD, boxR, D.one, D.pub1, D.cells, splice, cutOwn]
  exact Ret.is (by rw [← ordW_eqW])

theorem Compare_c (a b : Wd) : Fn Zs 61 [encSS a, encSS b] (.int .i64 (ordW a b)) := by
  refine fn_of (Z := Zs) ok61 fun σ hcl hbl => ?_
  simp -dsimp only [L61, encSS, ↓preB, postB, genB, ↓reduceIte, Nat.reduceEqDiff, Int.reduceToNat, Int.reduceLE, Int.reduceLT, Nat.reduceAdd, Nat.reduceLeDiff, intBin, strBin, unD, extractD, lit1, lit2, lit3, keptD, boxR, D.one, D.pub1, D.cells, splice, cutOwn]
  intro hbig
  refine pwp_loopG (fun k env s => k ≤ a.length ∧ k ≤ b.length ∧ ordW (a.drop k) (b.drop k) = ordW a b ∧ s = σ ∧ env 11 = .int .i64 (k:Nat) ∧ env 10 = .int .i64 a.length ∧ env 9 = encSS a ∧ env 0 = encSS a ∧ env 1 = encSS b) (fun k => a.length - k) 0 ?_ ?_
  · simp [upd_apply, envOf, encSS]
  · rintro k env s ⟨hk, hk', hp, rfl, h11, h10, h9, h0, h1⟩
    rcases Nat.lt_or_ge k a.length with hlt | hge
    · have hx : a[k]? = some a[k] := List.getElem?_eq_getElem hlt
      rcases Nat.lt_or_ge k b.length with hlt' | hge'
      · have hy : b[k]? = some b[k] := List.getElem?_eq_getElem hlt'
        have hn : ¬ (b.length ≤ k) := by omega
        rw [List.drop_eq_getElem_cons hlt, List.drop_eq_getElem_cons hlt', ordW_cons] at hp
        simp -dsimp only [h11, h10, h9, h0, h1, encSS, hlt, hx, hlt', hy, hn, Int.ofNat_le, ↓preB, postB, genB, ↓reduceIte, Nat.reduceEqDiff, Int.reduceToNat, Int.reduceLE, Int.reduceLT, Nat.reduceAdd, Nat.reduceLeDiff, intBin, strBin, unD, extractD, lit1, lit2, lit3, keptD, boxR, D.one, D.pub1, D.cells, splice, cutOwn]
        refine ⟨by omega, fun hb2 => ⟨by omega, Fn.use (cmp_c _ _) ?_⟩⟩
        by_cases c1 : cmpS a[k] b[k] = 0
        · have c2 : (cmpS a[k] b[k] != 0) = false := by simp [c1]
          simp -dsimp only [h11, h10, h9, h0, h1, encSS, hlt, hx, hlt', hy, hn, c2, ↓preB, postB, genB, ↓reduceIte, Nat.reduceEqDiff, Int.reduceToNat, Int.reduceLE, Int.reduceLT, Nat.reduceAdd, Nat.reduceLeDiff, intBin, strBin, unD, extractD, lit1, lit2, lit3, keptD, boxR, D.one, D.pub1, D.cells, splice, cutOwn]
          rw [if_pos c1] at hp
          exact ⟨k + 1, ⟨by omega, by omega, hp, wrap64_succ (by omega)⟩, by omega⟩
        · have c2 : (cmpS a[k] b[k] != 0) = true := by simp [c1]
          simp -dsimp only [h11, h10, h9, h0, h1, encSS, hlt, hx, hlt', hy, hn, c2, ↓preB, postB, genB, ↓reduceIte, Nat.reduceEqDiff, Int.reduceToNat, Int.reduceLE, Int.reduceLT, Nat.reduceAdd, Nat.reduceLeDiff, intBin, strBin, unD, extractD, lit1, lit2, lit3, keptD, boxR, D.one, D.pub1, D.cells, splice, cutOwn]
          rw [if_neg c1] at hp
          exact Ret.is (by rw [← hp])
      · have hn : b.length ≤ k := by omega
        simp -dsimp only [h11, h10, h9, h0, h1, encSS, hlt, hx, hn, Int.ofNat_le, ↓preB, postB, genB, ↓reduceIte, Nat.reduceEqDiff, Int.reduceToNat, Int.reduceLE, Int.reduceLT, Nat.reduceAdd, Nat.reduceLeDiff, intBin, strBin, unD, extractD, lit1, lit2, lit3, keptD, boxR, D.one, D.pub1, D.cells, splice, cutOwn]
        refine ⟨by omega, fun _ => Ret.is ?_⟩
        rw [← hp, List.drop_of_length_le hge', List.drop_eq_getElem_cons hlt]; rfl
    · by_cases hl : a.length < b.length
      · simp -dsimp only [h11, h10, h9, h0, h1, encSS, Nat.not_lt.2 hge, hl, ↓preB, postB, genB, ↓reduceIte, Nat.reduceEqDiff, Int.reduceToNat, Int.reduceLE, Int.reduceLT, Nat.reduceAdd, Nat.reduceLeDiff, intBin, strBin, unD, extractD, lit1, lit2, lit3, keptD, boxR, D.one, D.pub1, D.cells, splice, cutOwn]
        intros
        refine Ret.is ?_
        rw [← hp, List.drop_of_length_le hge, List.drop_eq_getElem_cons (by omega : k < b.length)]; rfl
      · simp -dsimp only [h11, h10, h9, h0, h1, encSS, Nat.not_lt.2 hge, hl, ↓preB, postB, genB, ↓reduceIte, Nat.reduceEqDiff, Int.reduceToNat, Int.reduceLE, Int.reduceLT, Nat.reduceAdd, Nat.reduceLeDiff, intBin, strBin, unD, extractD, lit1, lit2, lit3, keptD, boxR, D.one, D.pub1, D.cells, splice, cutOwn]
        intros
        refine Ret.is ?_
        rw [← hp, List.drop_of_length_le hge, List.drop_of_length_le (by omega)]; rfl

theorem eqW_len : ∀ {a b : Wd}, a.length ≠ b.length → eqW a b = false
  | [], [], h => absurd rfl h
  | [], _ :: _, _ => rfl
  | _ :: _, [], _ => rfl
  | x :: a, y :: b, h => by simp only [eqW, eqW_len (a := a) (b := b) (by simpa using h), Bool.and_false]

theorem Equal_c (a b : Wd) : Fn Zs 79 [encSS a, encSS b] (.bool (eqW a b)) := by
  refine fn_of (Z := Zs) ok79 fun σ hcl hbl => ?_
  simp -dsimp only [L79, encSS, ↓preB, postB, genB, ↓reduceIte, Nat.reduceEqDiff, Int.reduceToNat, Int.reduceLE, Int.reduceLT, Nat.reduceAdd, Nat.reduceLeDiff, intBin, strBin, unD, extractD, lit1, lit2, lit3, keptD, boxR, D.one, D.pub1, D.cells, splice, cutOwn]
  by_cases hne : a.length = b.length
  · have c0 : ((a.length : Int) != (b.length : Int)) = false := by simp [hne]
    simp -dsimp only [encSS, c0, ↓preB, postB, genB, ↓reduceIte, Nat.reduceEqDiff, Int.reduceToNat, Int.reduceLE, Int.reduceLT, Nat.reduceAdd, Nat.reduceLeDiff, intBin, strBin, unD, extractD, lit1, lit2, lit3, keptD, boxR, D.one, D.pub1, D.cells, splice, cutOwn]
    intro hb1 hb2 hb3
    refine pwp_loopG (fun k env s => k ≤ a.length ∧ eqW (a.drop k) (b.drop k) = eqW a b ∧ s = σ ∧ env 13 = .int .i64 (k:Nat) ∧ env 12 = .int .i64 a.length ∧ env 0 = encSS a ∧ env 1 = encSS b) (fun k => a.length - k) 0 ?_ ?_
    · simp [upd_apply, envOf, encSS]
    · rintro k env s ⟨hk, hp, rfl, h13, h12, h0, h1⟩
      rcases Nat.lt_or_ge k a.length with hlt | hge
      · have hlt' : k < b.length := by omega
        have hx : a[k]? = some a[k] := List.getElem?_eq_getElem hlt
        have hy : b[k]? = some b[k] := List.getElem?_eq_getElem hlt'
        rw [List.drop_eq_getElem_cons hlt, List.drop_eq_getElem_cons hlt', eqW] at hp
        simp -dsimp only [h13, h12, h0, h1, encSS, hlt, hx, hlt', hy, ↓preB, postB, genB, ↓reduceIte, Nat.reduceEqDiff, Int.reduceToNat, Int.reduceLE, Int.reduceLT, Nat.reduceAdd, Nat.reduceLeDiff, intBin, strBin, unD, extractD, lit1, lit2, lit3, keptD, boxR, D.one, D.pub1, D.cells, splice, cutOwn]
        refine draw_s ?_
        cases c1 : (a[k] == b[k])
        · simp -dsimp only [h13, h12, h0, h1, encSS, hlt, hx, hlt', hy, c1, ↓preB, postB, genB, ↓reduceIte, Nat.reduceEqDiff, Int.reduceToNat, Int.reduceLE, Int.reduceLT, Nat.reduceAdd, Nat.reduceLeDiff, intBin, strBin, unD, extractD, lit1, lit2, lit3, keptD, boxR, D.one, D.pub1, D.cells, splice, cutOwn]
          exact ⟨by omega, by omega, Ret.is (by rw [← hp, c1]; rfl)⟩
        · simp -dsimp only [h13, h12, h0, h1, encSS, hlt, hx, hlt', hy, c1, ↓preB, postB, genB, ↓reduceIte, Nat.reduceEqDiff, Int.reduceToNat, Int.reduceLE, Int.reduceLT, Nat.reduceAdd, Nat.reduceLeDiff, intBin, strBin, unD, extractD, lit1, lit2, lit3, keptD, boxR, D.one, D.pub1, D.cells, splice, cutOwn]
          refine ⟨by omega, by omega, k + 1, ⟨by omega, ?_, wrap64_succ (by omega)⟩, by omega⟩
          rw [← hp, c1]; simp
      · simp -dsimp only [h13, h12, h0, h1, encSS, Nat.not_lt.2 hge, ↓preB, postB, genB, ↓reduceIte, Nat.reduceEqDiff, Int.reduceToNat, Int.reduceLE, Int.reduceLT, Nat.reduceAdd, Nat.reduceLeDiff, intBin, strBin, unD, extractD, lit1, lit2, lit3, keptD, boxR, D.one, D.pub1, D.cells, splice, cutOwn]
        refine Ret.is ?_
        rw [← hp, List.drop_of_length_le hge, List.drop_of_length_le (by omega)]; rfl
  · have c0 : ((a.length : Int) != (b.length : Int)) = true := by simp; omega
    simp -dsimp only [encSS, c0, ↓preB, postB, genB, ↓reduceIte, Nat.reduceEqDiff, Int.reduceToNat, Int.reduceLE, Int.reduceLT, Nat.reduceAdd, Nat.reduceLeDiff, intBin, strBin, unD, extractD, lit1, lit2, lit3, keptD, boxR, D.one, D.pub1, D.cells, splice, cutOwn]
    intros
    exact Ret.is (by rw [eqW_len hne])

theorem begW_take : ∀ (w x : Wd), begW w x = (decide (x.length ≤ w.length) && eqW (w.take x.length) x)
  | w, [] => by cases w <;> simp [begW, eqW]
  | [], _ :: _ => by simp [begW]
  | a :: w, x :: xs => by
    simp only [begW, begW_take w xs, List.length_cons, List.take_succ_cons, eqW, Nat.add_le_add_iff_right]
    cases (a == x) <;> cases decide (xs.length ≤ w.length) <;> simp

structure Sh where
  From : Wd
  To : Wd
def rowsD : List Sh → List D
  | [] => []
  | r :: t => encSS r.From :: encSS r.To :: rowsD t
def encT (t : List Sh) : D := .sl .no t.length (rowsD t)
theorem rowsD_len : ∀ t : List Sh, (rowsD t).length = t.length * 2
  | [] => rfl
  | r :: t => by simp only [rowsD, List.length_cons, rowsD_len t]; omega
theorem rowsD_drop : ∀ (t : List Sh) (k : Nat), (rowsD t).drop (k * 2) = rowsD (t.drop k)
  | t, 0 => by simp
  | [], k + 1 => by simp [rowsD]
  | r :: t, k + 1 => by
    rw [Nat.succ_mul, rowsD]
    simp [rowsD_drop t k]
theorem rowsD_at {t : List Sh} {k : Nat} (h : k < t.length) : (rowsD t).drop (k * 2) = encSS t[k].From :: encSS t[k].To :: rowsD (t.drop (k + 1)) := by
  rw [rowsD_drop, List.drop_eq_getElem_cons h, rowsD]

end Go.Proofs.YtldlcejlfaogbaaGreatDoor.Vs

/- Small facts on words and rows of numbers. -/
namespace Go.Proofs.YtldlcejlfaogbaaGreatDoor.Vs
set_option linter.unusedVariables false
set_option linter.unusedSimpArgs false
set_option maxRecDepth 20000
/-- What is written at a place, and how much is gone over. -/
theorem badW_len {w : Wd} (h : badW w = 0) : w.length ≤ 60 := by
  unfold badW at h
  split at h
  · cases h
  · rename_i hc
    simp at hc
    omega
end Go.Proofs.YtldlcejlfaogbaaGreatDoor.Vs

/- How much there is in a table and a word: some number. -/
namespace Go.Proofs.YtldlcejlfaogbaaGreatDoor.Vs
set_option linter.unusedVariables false
set_option linter.unusedSimpArgs false
set_option maxRecDepth 20000
def bytesIn : Wd → Int → Int
  | [], n => n
  | s :: w, n => if n ≤ 100000 then bytesIn w (IntKind.i64.wrap (n + (s.size : Int))) else n
def bytesF : List Wd → Int → Int
  | [], n => n
  | w :: l, n => if n ≤ 100000 then bytesF l (bytesIn w (IntKind.i64.wrap (n + IntKind.i64.wrap (1 + (w.length : Int))))) else n
theorem bytesIn_big {w : Wd} {n : Int} (h : ¬ n ≤ 100000) : bytesIn w n = n := by
  cases w <;> simp [bytesIn, h]
theorem bytesF_big {l : List Wd} {n : Int} (h : ¬ n ≤ 100000) : bytesF l n = n := by
  cases l <;> simp [bytesF, h]

theorem bytes_c (l : List Wd) : Fn Zs 9 [encLL l] (.int .i64 (bytesF l 0)) := by
  refine fn_of (Z := Zs) ok9 fun σ hcl hbl => ?_
  simp -dsimp only [L9, encLL, ↓preB, postB, genB, ↓reduceIte, Nat.reduceEqDiff, Int.reduceToNat, Int.reduceLE, Int.reduceLT, Nat.reduceAdd, Nat.reduceLeDiff, intBin, strBin, unD, extractD, lit1, lit2, lit3, keptD, boxR, D.one, D.pub1, D.cells, splice, cutOwn]
  refine pwp_loopG (fun k env s => k ≤ l.length ∧ (∃ n, env 3 = .int .i64 n ∧ bytesF (l.drop k) n = bytesF l 0) ∧ s = σ ∧ env 4 = .int .i64 (k:Nat) ∧ env 0 = encLL l) (fun k => l.length - k) 0 ?_ ?_
  · simp [upd_apply, envOf_apply, encLL]
  · rintro k env s ⟨hk, ⟨n, h3, hp⟩, rfl, h4, h0⟩
    rcases Nat.lt_or_ge k l.length with hlt | hge
    · have hx : l[k]? = some l[k] := List.getElem?_eq_getElem hlt
      have hlp : 0 < l.length := by omega
      by_cases hn : n ≤ 100000
      · rw [List.drop_eq_getElem_cons hlt, bytesF, if_pos hn] at hp
        simp -dsimp only [h3, h4, h0, encLL, encSS, hlt, hx, hn, hlp, ↓preB, postB, genB, ↓reduceIte, Nat.reduceEqDiff, Int.reduceToNat, Int.reduceLE, Int.reduceLT, Nat.reduceAdd, Nat.reduceLeDiff, intBin, strBin, unD, extractD, lit1, lit2, lit3, keptD, boxR, D.one, D.pub1, D.cells, splice, cutOwn]
        intro hbig hbig2
        refine pwp_loopG (fun j env' s' => j ≤ l[k].length ∧ (∃ n', env' 3 = .int .i64 n' ∧ bytesIn (l[k].drop j) n' = bytesIn l[k] (IntKind.i64.wrap (n + IntKind.i64.wrap (1 + (l[k].length : Int))))) ∧ s' = s ∧ env' 5 = .int .i64 (j:Nat) ∧ env' 4 = .int .i64 (k:Nat) ∧ env' 0 = encLL l) (fun j => l[k].length - j) 0 ?_ ?_
        · simp [upd_apply, h4, h0]
        · rintro j env' s' ⟨hj, ⟨n', h3, hq⟩, rfl, h5, h4, h0⟩
          rcases Nat.lt_or_ge j l[k].length with hjl | hjl
          · have hy : (l[k])[j]? = some ((l[k])[j]) := List.getElem?_eq_getElem hjl
            have hyp : 0 < l[k].length := by omega
            by_cases hn' : n' ≤ 100000
            · rw [List.drop_eq_getElem_cons hjl, bytesIn, if_pos hn'] at hq
              simp -dsimp only [h3, h4, h5, h0, encLL, encSS, hlt, hx, hn', hlp, hjl, hy, hyp, hbig2, ↓preB, postB, genB, ↓reduceIte, Nat.reduceEqDiff, Int.reduceToNat, Int.reduceLE, Int.reduceLT, Nat.reduceAdd, Nat.reduceLeDiff, intBin, strBin, unD, extractD, lit1, lit2, lit3, keptD, boxR, D.one, D.pub1, D.cells, splice, cutOwn]
              exact fun _ => ⟨j + 1, ⟨by omega, hq, wrap64_succ (by omega)⟩, by omega⟩
            · rw [bytesIn_big hn'] at hq
              simp -dsimp only [h3, h4, h5, h0, encLL, encSS, hlt, hx, hn', hlp, hjl, hy, hyp, hbig2, ↓preB, postB, genB, ↓reduceIte, Nat.reduceEqDiff, Int.reduceToNat, Int.reduceLE, Int.reduceLT, Nat.reduceAdd, Nat.reduceLeDiff, intBin, strBin, unD, extractD, lit1, lit2, lit3, keptD, boxR, D.one, D.pub1, D.cells, splice, cutOwn]
              exact ⟨k + 1, ⟨by omega, by rw [hq]; exact hp, wrap64_succ (by omega)⟩, by omega⟩
          · rw [List.drop_of_length_le hjl, bytesIn] at hq
            simp -dsimp only [h3, h4, h5, h0, encLL, encSS, hlt, hx, hlp, Nat.not_lt.2 hjl, hbig2, ↓preB, postB, genB, ↓reduceIte, Nat.reduceEqDiff, Int.reduceToNat, Int.reduceLE, Int.reduceLT, Nat.reduceAdd, Nat.reduceLeDiff, intBin, strBin, unD, extractD, lit1, lit2, lit3, keptD, boxR, D.one, D.pub1, D.cells, splice, cutOwn]
            exact ⟨k + 1, ⟨by omega, by rw [hq]; exact hp, wrap64_succ (by omega)⟩, by omega⟩
      · rw [bytesF_big hn] at hp
        simp -dsimp only [h3, h4, h0, encLL, encSS, hlt, hx, hn, hlp, ↓preB, postB, genB, ↓reduceIte, Nat.reduceEqDiff, Int.reduceToNat, Int.reduceLE, Int.reduceLT, Nat.reduceAdd, Nat.reduceLeDiff, intBin, strBin, unD, extractD, lit1, lit2, lit3, keptD, boxR, D.one, D.pub1, D.cells, splice, cutOwn]
        intros
        exact Ret.is (by rw [hp])
    · rw [List.drop_of_length_le hge, bytesF] at hp
      simp -dsimp only [h3, h4, h0, encLL, Nat.not_lt.2 hge, ↓preB, postB, genB, ↓reduceIte, Nat.reduceEqDiff, Int.reduceToNat, Int.reduceLE, Int.reduceLT, Nat.reduceAdd, Nat.reduceLeDiff, intBin, strBin, unD, extractD, lit1, lit2, lit3, keptD, boxR, D.one, D.pub1, D.cells, splice, cutOwn]
      intros
      exact Ret.is (by rw [hp])

def overF : List Sh → Int → Int
  | [], n => n
  | r :: t, n => if n ≤ 100000 then overF t (IntKind.i64.wrap (n + bytesF [r.From, r.To] 0)) else n
theorem overF_big {t : List Sh} {n : Int} (h : ¬ n ≤ 100000) : overF t n = n := by
  cases t <;> simp [overF, h]
theorem over_c (t : List Sh) : Fn Zs 8 [encT t] (.bool (decide (100000 < overF t t.length))) := by
  refine fn_of (Z := Zs) ok8 fun σ hcl hbl => ?_
  simp -dsimp only [L8, encT, ↓preB, postB, genB, ↓reduceIte, Nat.reduceEqDiff, Int.reduceToNat, Int.reduceLE, Int.reduceLT, Nat.reduceAdd, Nat.reduceLeDiff, intBin, strBin, unD, extractD, lit1, lit2, lit3, keptD, boxR, D.one, D.pub1, D.cells, splice, cutOwn]
  intro hbig
  refine pwp_loopG (fun k env s => k ≤ t.length ∧ (∃ n, env 3 = .int .i64 n ∧ overF (t.drop k) n = overF t t.length) ∧ s = σ ∧ env 4 = .int .i64 (k:Nat) ∧ env 0 = encT t) (fun k => t.length - k) 0 ?_ ?_
  · simp [upd_apply, envOf_apply, encT]
  · rintro k env s ⟨hk, ⟨n, h3, hp⟩, rfl, h4, h0⟩
    rcases Nat.lt_or_ge k t.length with hlt | hge
    · have hd := rowsD_at hlt
      have hpos : 0 < (rowsD t).length := by rw [rowsD_len]; omega
      by_cases hn : n ≤ 100000
      · rw [List.drop_eq_getElem_cons hlt, overF, if_pos hn] at hp
        simp -dsimp only [h3, h4, h0, encT, hlt, hd, hpos, hn, hbig, ↓preB, postB, genB, ↓reduceIte, Nat.reduceEqDiff, Int.reduceToNat, Int.reduceLE, Int.reduceLT, Nat.reduceAdd, Nat.reduceLeDiff, intBin, strBin, unD, extractD, lit1, lit2, lit3, keptD, boxR, D.one, D.pub1, D.cells, splice, cutOwn]
        refine draw_s ?_
        simp -dsimp only [h3, h4, h0, encT, encSS, hlt, hd, hpos, hn, hbig, ↓preB, postB, genB, ↓reduceIte, Nat.reduceEqDiff, Int.reduceToNat, Int.reduceLE, Int.reduceLT, Nat.reduceAdd, Nat.reduceLeDiff, intBin, strBin, unD, extractD, lit1, lit2, lit3, keptD, boxR, D.one, D.pub1, D.cells, splice, cutOwn]
        refine Fn.useSP (bytes_c [t[k].From, t[k].To]) rfl ?_
        simp -dsimp only [h3, h4, h0, encT, encSS, hlt, hd, hpos, hn, hbig, ↓preB, postB, genB, ↓reduceIte, Nat.reduceEqDiff, Int.reduceToNat, Int.reduceLE, Int.reduceLT, Nat.reduceAdd, Nat.reduceLeDiff, intBin, strBin, unD, extractD, lit1, lit2, lit3, keptD, boxR, D.one, D.pub1, D.cells, splice, cutOwn]
        exact ⟨k + 1, ⟨by omega, hp, wrap64_succ (by omega)⟩, by omega⟩
      · rw [overF_big hn] at hp
        simp -dsimp only [h3, h4, h0, encT, hlt, hd, hpos, hn, hbig, ↓preB, postB, genB, ↓reduceIte, Nat.reduceEqDiff, Int.reduceToNat, Int.reduceLE, Int.reduceLT, Nat.reduceAdd, Nat.reduceLeDiff, intBin, strBin, unD, extractD, lit1, lit2, lit3, keptD, boxR, D.one, D.pub1, D.cells, splice, cutOwn]
        exact Ret.is (by rw [hp])
    · rw [List.drop_of_length_le hge, overF] at hp
      simp -dsimp only [h3, h4, h0, encT, Nat.not_lt.2 hge, hbig, ↓preB, postB, genB, ↓reduceIte, Nat.reduceEqDiff, Int.reduceToNat, Int.reduceLE, Int.reduceLT, Nat.reduceAdd, Nat.reduceLeDiff, intBin, strBin, unD, extractD, lit1, lit2, lit3, keptD, boxR, D.one, D.pub1, D.cells, splice, cutOwn]
      exact Ret.is (by rw [hp])
end Go.Proofs.YtldlcejlfaogbaaGreatDoor.Vs

/- The row that fits, and what a step is. -/
namespace Go.Proofs.YtldlcejlfaogbaaGreatDoor.Vs
set_option linter.unusedVariables false
set_option linter.unusedSimpArgs false
set_option maxRecDepth 20000
end Go.Proofs.YtldlcejlfaogbaaGreatDoor.Vs

/- Which tables there are. -/
namespace Go.Proofs.YtldlcejlfaogbaaGreatDoor.Vs
set_option linter.unusedVariables false
set_option linter.unusedSimpArgs false
set_option maxRecDepth 20000
def rowE (r : Sh) : Int := if badW r.From != 0 then badW r.From else badW r.To
def firstE : List Sh → Int
  | [] => 0
  | r :: t => if rowE r != 0 then rowE r else firstE t
def badO (p : Option Wd) (r : Sh) : Bool := r.From.length == 0 || (match p with | none => false | some q => decide (0 ≤ ordW q r.From))
def ordBad : Option Wd → List Sh → Bool
  | _, [] => false
  | p, r :: t => badO p r || ordBad (some r.From) t
def prevF (t : List Sh) (k : Nat) : Option Wd := if k = 0 then none else (t[k - 1]?).map (·.From)
def badT (t : List Sh) : Int := if 24 < t.length then 3 else if firstE t != 0 then firstE t else if ordBad none t then 1 else 0

theorem words2 (r : Sh) : ((([r.From, r.To]).map badW).find? (fun e => e != 0)).getD 0 = rowE r := by
  simp only [List.map_cons, List.map_nil, List.find?_cons, List.find?_nil, rowE]
  cases h1 : (badW r.From != 0)
  · cases h2 : (badW r.To != 0)
    · simp at h2; simp [h2]
    · simp
  · simp
theorem badO_prev {t : List Sh} {k : Nat} (h : k < t.length) (h0 : k ≠ 0) : badO (prevF t k) t[k] = ((t[k].From).length == 0 || decide (0 ≤ ordW (t[k-1]'(by omega)).From t[k].From)) := by
  have : (t[k - 1]?) = some (t[k-1]'(by omega)) := List.getElem?_eq_getElem (by omega)
  simp [badO, prevF, h0, this]
theorem prevF_next {t : List Sh} {k : Nat} (h : k < t.length) : prevF t (k + 1) = some t[k].From := by
  simp [prevF, h]

theorem wrap64_pred {k : Nat} (h : k ≠ 0) (h2 : k ≤ big) : IntKind.i64.wrap ((k : Int) - 1) = ((k - 1 : Nat) : Int) := by
  rw [wrap64_in] <;> simp only [big] at h2 <;> omega
theorem refValidate_c (t : List Sh) : Fn Zs 20 [encT t] (.int .i64 (badT t)) := by
  refine fn_of (Z := Zs) ok20 fun σ hcl hbl => ?_
  simp -dsimp only [L20, encT, ↓preB, postB, genB, ↓reduceIte, Nat.reduceEqDiff, Int.reduceToNat, Int.reduceLE, Int.reduceLT, Nat.reduceAdd, Nat.reduceLeDiff, intBin, strBin, unD, extractD, lit1, lit2, lit3, keptD, boxR, D.one, D.pub1, D.cells, splice, cutOwn]
  intro hbig
  by_cases c0 : (24 : Int) < t.length
  · simp -dsimp only [c0, ↓preB, postB, genB, ↓reduceIte, Nat.reduceEqDiff, Int.reduceToNat, Int.reduceLE, Int.reduceLT, Nat.reduceAdd, Nat.reduceLeDiff, intBin, strBin, unD, extractD, lit1, lit2, lit3, keptD, boxR, D.one, D.pub1, D.cells, splice, cutOwn]
    exact Ret.is (by rw [badT, if_pos (by omega)])
  simp -dsimp only [c0, encT, ↓preB, postB, genB, ↓reduceIte, Nat.reduceEqDiff, Int.reduceToNat, Int.reduceLE, Int.reduceLT, Nat.reduceAdd, Nat.reduceLeDiff, intBin, strBin, unD, extractD, lit1, lit2, lit3, keptD, boxR, D.one, D.pub1, D.cells, splice, cutOwn]
  refine pwp_loopG (fun k env s => k ≤ t.length ∧ firstE (t.drop k) = firstE t ∧ s = σ ∧ env 3 = .int .i64 (k:Nat) ∧ env 0 = encT t) (fun k => t.length - k) 0 ?_ ?_
  · simp [upd_apply, envOf_apply, encT]
  · rintro k env s ⟨hk, hp, rfl, h3, h0⟩
    rcases Nat.lt_or_ge k t.length with hlt | hge
    · have hd := rowsD_at hlt
      have hpos : 0 < (rowsD t).length := by rw [rowsD_len]; omega
      rw [List.drop_eq_getElem_cons hlt, firstE] at hp
      simp -dsimp only [h3, h0, encT, hlt, hd, hpos, hbig, ↓preB, postB, genB, ↓reduceIte, Nat.reduceEqDiff, Int.reduceToNat, Int.reduceLE, Int.reduceLT, Nat.reduceAdd, Nat.reduceLeDiff, intBin, strBin, unD, extractD, lit1, lit2, lit3, keptD, boxR, D.one, D.pub1, D.cells, splice, cutOwn]
      refine draw_t 10 (by decide) ?_
      simp -dsimp only [h3, h0, encT, encSS, hlt, hd, hpos, hbig, ↓preB, postB, genB, ↓reduceIte, Nat.reduceEqDiff, Int.reduceToNat, Int.reduceLE, Int.reduceLT, Nat.reduceAdd, Nat.reduceLeDiff, intBin, strBin, unD, extractD, lit1, lit2, lit3, keptD, boxR, D.one, D.pub1, D.cells, splice, cutOwn]
      refine Fn.useP (Words_c [t[k].From, t[k].To]) rfl ?_
      rw [words2]
      cases c1 : (rowE t[k] != 0)
      · simp -dsimp only [h3, h0, encT, encSS, hlt, hd, hpos, hbig, c1, ↓preB, postB, genB, ↓reduceIte, Nat.reduceEqDiff, Int.reduceToNat, Int.reduceLE, Int.reduceLT, Nat.reduceAdd, Nat.reduceLeDiff, intBin, strBin, unD, extractD, lit1, lit2, lit3, keptD, boxR, D.one, D.pub1, D.cells, splice, cutOwn]
        rw [c1] at hp
        exact ⟨k + 1, ⟨by omega, by simpa using hp, wrap64_succ (by omega)⟩, by omega⟩
      · simp -dsimp only [h3, h0, encT, encSS, hlt, hd, hpos, hbig, c1, ↓preB, postB, genB, ↓reduceIte, Nat.reduceEqDiff, Int.reduceToNat, Int.reduceLE, Int.reduceLT, Nat.reduceAdd, Nat.reduceLeDiff, intBin, strBin, unD, extractD, lit1, lit2, lit3, keptD, boxR, D.one, D.pub1, D.cells, splice, cutOwn]
        rw [c1] at hp
        simp only [if_true] at hp
        exact Ret.is (by rw [badT, if_neg (by omega), ← hp, c1]; rfl)
    · simp -dsimp only [h3, h0, encT, Nat.not_lt.2 hge, hbig, ↓preB, postB, genB, ↓reduceIte, Nat.reduceEqDiff, Int.reduceToNat, Int.reduceLE, Int.reduceLT, Nat.reduceAdd, Nat.reduceLeDiff, intBin, strBin, unD, extractD, lit1, lit2, lit3, keptD, boxR, D.one, D.pub1, D.cells, splice, cutOwn]
      have hfe : firstE t = 0 := by rw [← hp, List.drop_of_length_le hge]; rfl
      refine pwp_loopG (fun k env s' => k ≤ t.length ∧ ordBad (prevF t k) (t.drop k) = ordBad none t ∧ s' = s ∧ env 5 = .int .i64 (k:Nat) ∧ env 0 = encT t) (fun k => t.length - k) 0 ?_ ?_
      · simp [upd_apply, envOf_apply, encT, h0, prevF]
      · rintro k env s ⟨hk, hp, rfl, h5, h0⟩
        rcases Nat.lt_or_ge k t.length with hlt | hge
        · have hd := rowsD_at hlt
          have hpos : 0 < (rowsD t).length := by rw [rowsD_len]; omega
          rw [List.drop_eq_getElem_cons hlt, ordBad, ← prevF_next hlt] at hp
          simp -dsimp only [h5, h0, encT, hlt, hd, hpos, hbig, ↓preB, postB, genB, ↓reduceIte, Nat.reduceEqDiff, Int.reduceToNat, Int.reduceLE, Int.reduceLT, Nat.reduceAdd, Nat.reduceLeDiff, intBin, strBin, unD, extractD, lit1, lit2, lit3, keptD, boxR, D.one, D.pub1, D.cells, splice, cutOwn]
          refine draw_s ?_
          have hdone : badO (prevF t k) t[k] = true → badT t = 1 := fun hb => by
            rw [hb, Bool.true_or] at hp
            rw [badT, if_neg (by omega), hfe, ← hp]; rfl
          have hgo : badO (prevF t k) t[k] = false → ordBad (prevF t (k + 1)) (t.drop (k + 1)) = ordBad none t := fun hb => by
            rw [hb, Bool.false_or] at hp; exact hp
          have c1n : ((t[k].From.length : Int) == 0) = (t[k].From.length == 0) := by
            rw [Bool.eq_iff_iff]; simp
          cases c1 : (t[k].From.length == 0)
          · by_cases ck : k = 0
            · have ckn : ¬ (0 : Int) < k := by omega
              simp -dsimp only [h5, h0, encT, encSS, hlt, hd, hpos, hbig, c1n, c1, ckn, ↓preB, postB, genB, ↓reduceIte, Nat.reduceEqDiff, Int.reduceToNat, Int.reduceLE, Int.reduceLT, Nat.reduceAdd, Nat.reduceLeDiff, intBin, strBin, unD, extractD, lit1, lit2, lit3, keptD, boxR, D.one, D.pub1, D.cells, splice, cutOwn]
              have hb : badO (prevF t k) t[k] = false := by simp [badO, prevF, c1, if_pos ck]
              exact ⟨k + 1, ⟨by omega, hgo hb, wrap64_succ (by omega)⟩, by omega⟩
            · have ckp : (0 : Int) < k := by omega
              have hw : IntKind.i64.wrap ((k : Int) - 1) = ((k - 1 : Nat) : Int) := wrap64_pred (by omega) (by omega)
              have hlt' : k - 1 < t.length := by omega
              have hd' := rowsD_at hlt'
              simp -dsimp only [h5, h0, encT, encSS, hlt, hlt', hd, hd', hpos, hbig, c1n, c1, ckp, hw, ↓preB, postB, genB, ↓reduceIte, Nat.reduceEqDiff, Int.reduceToNat, Int.reduceLE, Int.reduceLT, Nat.reduceAdd, Nat.reduceLeDiff, intBin, strBin, unD, extractD, lit1, lit2, lit3, keptD, boxR, D.one, D.pub1, D.cells, splice, cutOwn]
              refine Fn.useS (Order_c _ _) ?_
              have hb := badO_prev hlt ck
              rw [c1, Bool.false_or] at hb
              by_cases c2 : 0 ≤ ordW (t[k-1]'hlt').From t[k].From
              · simp -dsimp only [h5, h0, encT, encSS, hlt, hlt', hd, hd', hpos, hbig, c1n, c1, ckp, hw, c2, ↓preB, postB, genB, ↓reduceIte, Nat.reduceEqDiff, Int.reduceToNat, Int.reduceLE, Int.reduceLT, Nat.reduceAdd, Nat.reduceLeDiff, intBin, strBin, unD, extractD, lit1, lit2, lit3, keptD, boxR, D.one, D.pub1, D.cells, splice, cutOwn]
                exact Ret.is (by rw [hdone (by rw [hb]; simpa using c2)])
              · simp -dsimp only [h5, h0, encT, encSS, hlt, hlt', hd, hd', hpos, hbig, c1n, c1, ckp, hw, c2, ↓preB, postB, genB, ↓reduceIte, Nat.reduceEqDiff, Int.reduceToNat, Int.reduceLE, Int.reduceLT, Nat.reduceAdd, Nat.reduceLeDiff, intBin, strBin, unD, extractD, lit1, lit2, lit3, keptD, boxR, D.one, D.pub1, D.cells, splice, cutOwn]
                exact ⟨k + 1, ⟨by omega, hgo (by rw [hb]; simpa using c2), wrap64_succ (by omega)⟩, by omega⟩
          · simp -dsimp only [h5, h0, encT, encSS, hlt, hd, hpos, hbig, c1n, c1, ↓preB, postB, genB, ↓reduceIte, Nat.reduceEqDiff, Int.reduceToNat, Int.reduceLE, Int.reduceLT, Nat.reduceAdd, Nat.reduceLeDiff, intBin, strBin, unD, extractD, lit1, lit2, lit3, keptD, boxR, D.one, D.pub1, D.cells, splice, cutOwn]
            exact Ret.is (by rw [hdone (by simp only [badO, c1, Bool.true_or])])
        · simp -dsimp only [h5, h0, encT, Nat.not_lt.2 hge, hbig, ↓preB, postB, genB, ↓reduceIte, Nat.reduceEqDiff, Int.reduceToNat, Int.reduceLE, Int.reduceLT, Nat.reduceAdd, Nat.reduceLeDiff, intBin, strBin, unD, extractD, lit1, lit2, lit3, keptD, boxR, D.one, D.pub1, D.cells, splice, cutOwn]
          refine Ret.is ?_
          rw [badT, if_neg (by omega), hfe, ← hp, List.drop_of_length_le hge]; rfl
end Go.Proofs.YtldlcejlfaogbaaGreatDoor.Vs

/- Which tables there are, by the program. -/
namespace Go.Proofs.YtldlcejlfaogbaaGreatDoor.Vs
set_option linter.unusedVariables false
set_option linter.unusedSimpArgs false
set_option maxRecDepth 20000
theorem validate_c (t : List Sh) : Fn Zs 35 [encT t] (.int .i64 (badT t)) := by
  refine fn_of (Z := Zs) ok35 fun σ hcl hbl => ?_
  simp -dsimp only [L35, encT, ↓preB, postB, genB, ↓reduceIte, Nat.reduceEqDiff, Int.reduceToNat, Int.reduceLE, Int.reduceLT, Nat.reduceAdd, Nat.reduceLeDiff, intBin, strBin, unD, extractD, lit1, lit2, lit3, keptD, boxR, D.one, D.pub1, D.cells, splice, cutOwn]
  intro hbig
  by_cases c0 : (24 : Int) < t.length
  · simp -dsimp only [c0, ↓preB, postB, genB, ↓reduceIte, Nat.reduceEqDiff, Int.reduceToNat, Int.reduceLE, Int.reduceLT, Nat.reduceAdd, Nat.reduceLeDiff, intBin, strBin, unD, extractD, lit1, lit2, lit3, keptD, boxR, D.one, D.pub1, D.cells, splice, cutOwn]
    exact Ret.is (by rw [badT, if_pos (by omega)])
  simp -dsimp only [c0, encT, hbig, ↓preB, postB, genB, ↓reduceIte, Nat.reduceEqDiff, Int.reduceToNat, Int.reduceLE, Int.reduceLT, Nat.reduceAdd, Nat.reduceLeDiff, intBin, strBin, unD, extractD, lit1, lit2, lit3, keptD, boxR, D.one, D.pub1, D.cells, splice, cutOwn]
  refine pwp_loopG (fun k env s => k ≤ t.length ∧ firstE (t.drop k) = firstE t ∧ HLe σ s ∧ env 15 = .int .i64 (k:Nat) ∧ env 14 = .int .i64 t.length ∧ env 13 = encT t ∧ env 0 = encT t) (fun k => t.length - k) 0 ?_ ?_
  · simp [upd_apply, envOf_apply, encT, HLe.refl]
  · rintro k env s ⟨hk, hp, hH, h15, h14, h13, h0⟩
    rcases Nat.lt_or_ge k t.length with hlt | hge
    · have hd := rowsD_at hlt
      have hpos : 0 < (rowsD t).length := by rw [rowsD_len]; omega
      rw [List.drop_eq_getElem_cons hlt, firstE] at hp
      simp -dsimp only [h15, h14, h13, h0, encT, encSS, hlt, hd, hpos, hbig, ↓preB, postB, genB, ↓reduceIte, Nat.reduceEqDiff, Int.reduceToNat, Int.reduceLE, Int.reduceLT, Nat.reduceAdd, Nat.reduceLeDiff, intBin, strBin, unD, extractD, lit1, lit2, lit3, keptD, boxR, D.one, D.pub1, D.cells, splice, cutOwn]
      intro hb2
      have hH1 : ∀ o, HLe σ (s.new o) := fun o => hH.new' o hcl
      obtain ⟨l2, hl2⟩ : ∃ l : List Wd, l = [t[k].From, t[k].To] := ⟨_, rfl⟩
      have hlen : l2.length = 2 := by rw [hl2]; rfl
      have hmap : l2.map encSS = [encSS t[k].From, encSS t[k].To] := by rw [hl2]; rfl
      have hrow : ((l2.map badW).find? (fun e => e != 0)).getD 0 = rowE t[k] := by rw [hl2, words2]
      refine pwp_loopG (fun j env' s' => j ≤ 2 ∧ (((l2.drop j).map badW).find? (fun e => e != 0)).getD 0 = rowE t[k] ∧ HLe σ s' ∧ env' 25 = .int .i64 (j:Nat) ∧ env' 24 = .int .i64 2 ∧ env' 23 = .sl .full 2 (l2.map encSS) ∧ env' 15 = .int .i64 (k:Nat) ∧ env' 14 = .int .i64 t.length ∧ env' 13 = encT t ∧ env' 0 = encT t) (fun j => 2 - j) 0 ?_ ?_
      · simp only [upd_apply, Nat.reduceEqDiff, if_true, if_false, h15, h14, h13, h0, hmap]
        exact ⟨by omega, by simpa using hrow, hH1 _, rfl, rfl, rfl, trivial, trivial, trivial, trivial⟩
      · rintro j env' s' ⟨hj, hq, hH', h25, h24, h23, h15, h14, h13, h0⟩
        rcases Nat.lt_or_ge j 2 with hj2 | hj2
        · have hjl : j < l2.length := by omega
          have hx : l2[j]? = some l2[j] := List.getElem?_eq_getElem hjl
          have hj2' : (j : Int) < 2 := by omega
          rw [List.drop_eq_getElem_cons hjl, List.map_cons, List.find?_cons] at hq
          have hlp : 0 < l2.length := by omega
          simp -dsimp only [h25, h24, h23, h15, h14, h13, h0, hj2', hx, hlp, ↓preB, postB, genB, ↓reduceIte, Nat.reduceEqDiff, Int.reduceToNat, Int.reduceLE, Int.reduceLT, Nat.reduceAdd, Nat.reduceLeDiff, intBin, strBin, unD, extractD, lit1, lit2, lit3, keptD, boxR, D.one, D.pub1, D.cells, splice, cutOwn]
          refine ⟨hj2, Fn.use (symsValidateWord_c _) ?_⟩
          cases c1 : (badW l2[j] != 0)
          · simp -dsimp only [h25, h24, h23, h15, h14, h13, h0, hj2', hx, hlp, c1, ↓preB, postB, genB, ↓reduceIte, Nat.reduceEqDiff, Int.reduceToNat, Int.reduceLE, Int.reduceLT, Nat.reduceAdd, Nat.reduceLeDiff, intBin, strBin, unD, extractD, lit1, lit2, lit3, keptD, boxR, D.one, D.pub1, D.cells, splice, cutOwn]
            rw [c1] at hq
            exact ⟨j + 1, ⟨by omega, hq, hH', wrap64_succ (by simp only [big]; omega)⟩, by omega⟩
          · simp -dsimp only [h25, h24, h23, h15, h14, h13, h0, hj2', hx, hlp, c1, ↓preB, postB, genB, ↓reduceIte, Nat.reduceEqDiff, Int.reduceToNat, Int.reduceLE, Int.reduceLT, Nat.reduceAdd, Nat.reduceLeDiff, intBin, strBin, unD, extractD, lit1, lit2, lit3, keptD, boxR, D.one, D.pub1, D.cells, splice, cutOwn]
            rw [c1] at hq
            simp only [Option.getD_some] at hq
            refine Ret.isH hH' hcl ?_ (.int _ _)
            have e1 : (rowE t[k] != 0) = true := by rw [← hq]; exact c1
            rw [e1] at hp
            simp only [if_true] at hp
            rw [badT, if_neg (by omega), ← hp, e1, hq]; rfl
        · have hj2' : ¬ (j : Int) < 2 := by omega
          simp -dsimp only [h25, h24, h23, h15, h14, h13, h0, hj2', ↓preB, postB, genB, ↓reduceIte, Nat.reduceEqDiff, Int.reduceToNat, Int.reduceLE, Int.reduceLT, Nat.reduceAdd, Nat.reduceLeDiff, intBin, strBin, unD, extractD, lit1, lit2, lit3, keptD, boxR, D.one, D.pub1, D.cells, splice, cutOwn]
          have e0 : rowE t[k] = 0 := by
            rw [← hq, List.drop_of_length_le (by omega)]; rfl
          rw [e0] at hp
          exact ⟨k + 1, ⟨by omega, by simpa using hp, hH', wrap64_succ (by omega)⟩, by omega⟩
    · simp -dsimp only [h15, h14, h13, h0, encT, Nat.not_lt.2 hge, hbig, ↓preB, postB, genB, ↓reduceIte, Nat.reduceEqDiff, Int.reduceToNat, Int.reduceLE, Int.reduceLT, Nat.reduceAdd, Nat.reduceLeDiff, intBin, strBin, unD, extractD, lit1, lit2, lit3, keptD, boxR, D.one, D.pub1, D.cells, splice, cutOwn]
      have hfe : firstE t = 0 := by rw [← hp, List.drop_of_length_le hge]; rfl
      refine pwp_loopG (fun k env s' => k ≤ t.length ∧ ordBad (prevF t k) (t.drop k) = ordBad none t ∧ HLe σ s' ∧ env 38 = .int .i64 (k:Nat) ∧ env 37 = .int .i64 t.length ∧ env 36 = encT t ∧ env 0 = encT t) (fun k => t.length - k) 0 ?_ ?_
      · simp only [upd_apply, Nat.reduceEqDiff, if_true, if_false, h0]
        exact ⟨by omega, by simp [prevF], hH, rfl, trivial, rfl, trivial⟩
      · rintro k env s ⟨hk, hp, hH, h38, h37, h36, h0⟩
        rcases Nat.lt_or_ge k t.length with hlt | hge
        · have hd := rowsD_at hlt
          have hpos : 0 < (rowsD t).length := by rw [rowsD_len]; omega
          rw [List.drop_eq_getElem_cons hlt, ordBad, ← prevF_next hlt] at hp
          simp -dsimp only [h38, h37, h36, h0, encT, hlt, hd, hpos, hbig, ↓preB, postB, genB, ↓reduceIte, Nat.reduceEqDiff, Int.reduceToNat, Int.reduceLE, Int.reduceLT, Nat.reduceAdd, Nat.reduceLeDiff, intBin, strBin, unD, extractD, lit1, lit2, lit3, keptD, boxR, D.one, D.pub1, D.cells, splice, cutOwn]
          have hH1 : ∀ o, HLe σ (s.new o) := fun o => hH.new' o hcl
          refine draw_s ?_
          have hdone : badO (prevF t k) t[k] = true → badT t = 1 := fun hb => by
            rw [hb, Bool.true_or] at hp
            rw [badT, if_neg (by omega), hfe, ← hp]; rfl
          have hgo : badO (prevF t k) t[k] = false → ordBad (prevF t (k + 1)) (t.drop (k + 1)) = ordBad none t := fun hb => by
            rw [hb, Bool.false_or] at hp; exact hp
          have c1n : ((t[k].From.length : Int) == 0) = (t[k].From.length == 0) := by
            rw [Bool.eq_iff_iff]; simp
          cases c1 : (t[k].From.length == 0)
          · by_cases ck : k = 0
            · have ckn : ¬ (0 : Int) < k := by omega
              simp -dsimp only [h38, h37, h36, h0, encT, encSS, hlt, hd, hpos, hbig, c1n, c1, ckn, ↓preB, postB, genB, ↓reduceIte, Nat.reduceEqDiff, Int.reduceToNat, Int.reduceLE, Int.reduceLT, Nat.reduceAdd, Nat.reduceLeDiff, intBin, strBin, unD, extractD, lit1, lit2, lit3, keptD, boxR, D.one, D.pub1, D.cells, splice, cutOwn]
              have hb : badO (prevF t k) t[k] = false := by simp [badO, prevF, c1, if_pos ck]
              exact ⟨k + 1, ⟨by omega, hgo hb, hH1 _, wrap64_succ (by omega)⟩, by omega⟩
            · have ckp : (0 : Int) < k := by omega
              have hw : IntKind.i64.wrap ((k : Int) - 1) = ((k - 1 : Nat) : Int) := wrap64_pred (by omega) (by omega)
              have hlt' : k - 1 < t.length := by omega
              have hd' := rowsD_at hlt'
              simp -dsimp only [h38, h37, h36, h0, encT, encSS, hlt, hlt', hd, hd', hpos, hbig, c1n, c1, ckp, hw, ↓preB, postB, genB, ↓reduceIte, Nat.reduceEqDiff, Int.reduceToNat, Int.reduceLE, Int.reduceLT, Nat.reduceAdd, Nat.reduceLeDiff, intBin, strBin, unD, extractD, lit1, lit2, lit3, keptD, boxR, D.one, D.pub1, D.cells, splice, cutOwn]
              refine Fn.useS (Compare_c _ _) ?_
              have hb := badO_prev hlt ck
              rw [c1, Bool.false_or] at hb
              by_cases c2 : 0 ≤ ordW (t[k-1]'hlt').From t[k].From
              · simp -dsimp only [h38, h37, h36, h0, encT, encSS, hlt, hlt', hd, hd', hpos, hbig, c1n, c1, ckp, hw, c2, ↓preB, postB, genB, ↓reduceIte, Nat.reduceEqDiff, Int.reduceToNat, Int.reduceLE, Int.reduceLT, Nat.reduceAdd, Nat.reduceLeDiff, intBin, strBin, unD, extractD, lit1, lit2, lit3, keptD, boxR, D.one, D.pub1, D.cells, splice, cutOwn]
                exact Ret.isH (hH1 _) hcl (by rw [hdone (by rw [hb]; simpa using c2)]) (.int _ _)
              · simp -dsimp only [h38, h37, h36, h0, encT, encSS, hlt, hlt', hd, hd', hpos, hbig, c1n, c1, ckp, hw, c2, ↓preB, postB, genB, ↓reduceIte, Nat.reduceEqDiff, Int.reduceToNat, Int.reduceLE, Int.reduceLT, Nat.reduceAdd, Nat.reduceLeDiff, intBin, strBin, unD, extractD, lit1, lit2, lit3, keptD, boxR, D.one, D.pub1, D.cells, splice, cutOwn]
                exact ⟨k + 1, ⟨by omega, hgo (by rw [hb]; simpa using c2), hH1 _, wrap64_succ (by omega)⟩, by omega⟩
          · simp -dsimp only [h38, h37, h36, h0, encT, encSS, hlt, hd, hpos, hbig, c1n, c1, ↓preB, postB, genB, ↓reduceIte, Nat.reduceEqDiff, Int.reduceToNat, Int.reduceLE, Int.reduceLT, Nat.reduceAdd, Nat.reduceLeDiff, intBin, strBin, unD, extractD, lit1, lit2, lit3, keptD, boxR, D.one, D.pub1, D.cells, splice, cutOwn]
            exact Ret.isH (hH1 _) hcl (by rw [hdone (by simp only [badO, c1, Bool.true_or])]) (.int _ _)
        · simp -dsimp only [h38, h37, h36, h0, encT, Nat.not_lt.2 hge, hbig, ↓preB, postB, genB, ↓reduceIte, Nat.reduceEqDiff, Int.reduceToNat, Int.reduceLE, Int.reduceLT, Nat.reduceAdd, Nat.reduceLeDiff, intBin, strBin, unD, extractD, lit1, lit2, lit3, keptD, boxR, D.one, D.pub1, D.cells, splice, cutOwn]
          refine Ret.isH hH hcl ?_ (.int _ _)
          rw [badT, if_neg (by omega), hfe, ← hp, List.drop_of_length_le hge]; rfl
end Go.Proofs.YtldlcejlfaogbaaGreatDoor.Vs

/- The shifted word and whether a word is clean, by the program. -/
namespace Go.Proofs.YtldlcejlfaogbaaGreatDoor.Vs
set_option linter.unusedVariables false
set_option linter.unusedSimpArgs false
set_option maxRecDepth 20000
theorem firstE_zero : ∀ {t : List Sh}, firstE t = 0 → ∀ r ∈ t, badW r.From = 0 ∧ badW r.To = 0
  | [], _, r, hr => by cases hr
  | q :: t, h, r, hr => by
    simp only [firstE] at h
    cases c : (rowE q != 0)
    · rw [c] at h
      simp only [Bool.false_eq_true, if_false] at h
      rcases List.mem_cons.1 hr with rfl | hr
      · simp at c
        unfold rowE at c
        cases c2 : (badW r.From != 0)
        · rw [c2] at c; simp at c c2; exact ⟨c2, c⟩
        · rw [c2] at c; simp at c c2; exact absurd c c2
      · exact firstE_zero h r hr
    · rw [c] at h
      simp only [if_true] at h
      rw [h] at c; simp at c
theorem ordBad_false : ∀ {t : List Sh} {p : Option Wd}, ordBad p t = false → ∀ r ∈ t, r.From ≠ []
  | [], _, _, r, hr => by cases hr
  | q :: t, p, h, r, hr => by
    simp only [ordBad, badO, Bool.or_eq_false_iff] at h
    rcases List.mem_cons.1 hr with rfl | hr
    · intro he
      have := h.1.1
      rw [he] at this
      simp at this
    · exact ordBad_false h.2 r hr
theorem badT_zero {t : List Sh} (h : badT t = 0) : t.length ≤ 24 ∧ firstE t = 0 ∧ ordBad none t = false := by
  unfold badT at h
  split at h
  · cases h
  · rename_i hl
    cases c : (firstE t != 0)
    · rw [c] at h
      simp only [Bool.false_eq_true, if_false] at h
      simp at c
      refine ⟨by omega, c, ?_⟩
      cases c2 : ordBad none t
      · rfl
      · rw [c2] at h; cases h
    · rw [c] at h
      simp only [if_true] at h
      rw [h] at c; simp at c
theorem table_ok {t : List Sh} (h : badT t = 0) : (∀ r ∈ t, r.From ≠ []) ∧ ∀ r ∈ t, r.To.length ≤ 60 := by
  obtain ⟨_, h1, h2⟩ := badT_zero h
  exact ⟨ordBad_false h2, fun r hr => badW_len (firstE_zero h1 r hr).2⟩

end Go.Proofs.YtldlcejlfaogbaaGreatDoor.Vs

/- Lists of words looked through; the errors of Code; rows of numbers compared and joined. -/
namespace Go.Proofs.YtldlcejlfaogbaaGreatDoor.Vs
set_option linter.unusedVariables false
set_option linter.unusedSimpArgs false
set_option maxRecDepth 20000
end Go.Proofs.YtldlcejlfaogbaaGreatDoor.Vs
