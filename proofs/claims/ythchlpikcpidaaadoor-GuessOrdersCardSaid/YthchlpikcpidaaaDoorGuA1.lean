import Derived.Test.YthchlpikcpidaaaDoorGuessA
import Derived.Test.YthchlpikcpidaaaDoorFnKey
/- numbers of Ythchlpikcpidaaa -/
namespace Go.Proofs.YthchlpikcpidaaaDoor.Vs
set_option linter.unusedVariables false
set_option linter.unusedSimpArgs false
set_option maxRecDepth 20000
theorem gkey_c (w : Wd) (hw : goodW w) : Fn Zs 16 [encSS w] (.str (keyB w sp)) := by
  refine fn_of (Z := Zs) ok16 fun σ hcl hbl => ?_
  simp -dsimp only [L16, ↓preB, postB, genB, ↓reduceIte, Nat.reduceEqDiff, Int.reduceToNat, Int.reduceLE, Int.reduceLT, Nat.reduceAdd, Nat.reduceLeDiff, intBin, strBin, unD, extractD, lit1, lit2, lit3, keptD, boxR, D.one, D.pub1, D.cells, splice, cutOwn]
  refine Fn.use (join_c w _ hw.1 hw.2.1 (by decide)) ?_
  simp -dsimp only [↓preB, postB, genB, ↓reduceIte, Nat.reduceEqDiff, Int.reduceToNat, Int.reduceLE, Int.reduceLT, Nat.reduceAdd, Nat.reduceLeDiff, intBin, strBin, unD, extractD, lit1, lit2, lit3, keptD, boxR, D.one, D.pub1, D.cells, splice, cutOwn]
  exact Ret.is rfl

def lowB (c : Int) : Int := IntKind.u8.wrap ((BitVec.ofInt 8 c ||| BitVec.ofInt 8 32).toNat : Int)
theorem or32 (c : Int) : intBin .or .u8 c 32 = some (.int .u8 (lowB c)) := (rfl)
theorem low_all : ∀ n : Fin 256, (decide (lowB (n.val : Int) < 97) || decide (122 < lowB (n.val : Int))) = !(letB (n.val : Int)) := by decide
theorem byteAt_in (s : ByteArray) (i : Nat) : ∃ n : Fin 256, byteAt s i = (n.val : Int) := ⟨⟨(s.data.toList.getD i 0).toNat, UInt8.toNat_lt _⟩, rfl⟩
theorem low_let (s : ByteArray) (i : Nat) : (decide (lowB (byteAt s i) < 97) || decide (122 < lowB (byteAt s i))) = !(letB (byteAt s i)) := by
  obtain ⟨n, hn⟩ := byteAt_in s i
  rw [hn]; exact low_all n
theorem isNm_yes {s : ByteArray} (h : ∀ j, j < s.size → namC s j = true) : isNm s = (decide (1 ≤ s.size) && decide (s.size ≤ 12)) := by
  have : (List.range s.size).all (namC s) = true := by
    simp only [List.all_eq_true, List.mem_range]; exact h
  rw [isNm, this, Bool.true_and]
theorem isNm_no {s : ByteArray} {j : Nat} (hj : j < s.size) (h : namC s j = false) : isNm s = false := by
  have : (List.range s.size).all (namC s) = false := by
    simp only [List.all_eq_false, List.mem_range]; exact ⟨j, hj, by simp [h]⟩
  rw [isNm, this, Bool.false_and]
theorem ne_empty (s : ByteArray) : (!(s == (⟨#[]⟩ : ByteArray))) = decide (1 ≤ s.size) := by
  by_cases h0 : s = ⟨#[]⟩
  · subst h0; rfl
  · have : s.size ≠ 0 := fun hs => h0 (by
      cases s with
      | mk d => congr; exact Array.size_eq_zero_iff.1 hs)
    have h3 : decide (1 ≤ s.size) = true := by simp; omega
    have h5 : (s == (⟨#[]⟩ : ByteArray)) = false := by
      cases hq : (s == (⟨#[]⟩ : ByteArray)) with
      | false => rfl
      | true => exact absurd (ba_eq hq) h0
    rw [h3, h5]; rfl

theorem isName_c (s : ByteArray) : Fn Zs 27 [.str s] (.bool (isNm s)) := by
  refine fn_of (Z := Zs) ok27 fun σ hcl hbl => ?_
  simp -dsimp only [L27, ↓preB, postB, genB, ↓reduceIte, Nat.reduceEqDiff, Int.reduceToNat, Int.reduceLE, Int.reduceLT, Nat.reduceAdd, Nat.reduceLeDiff, intBin, strBin, unD, extractD, lit1, lit2, lit3, keptD, boxR, D.one, D.pub1, D.cells, splice, cutOwn]
  intro hbig
  refine pwp_loopG (fun k env s' => k ≤ s.size ∧ (∀ j, j < k → namC s j = true) ∧ s' = σ ∧ env 7 = .int .i64 (k:Nat) ∧ env 6 = .int .i64 s.size ∧ env 0 = .str s) (fun k => s.size - k) 0 ?_ ?_
  · simp [upd_apply, envOf]
  · rintro k env s' ⟨hk, hp, rfl, h7, h6, h0⟩
    rcases Nat.lt_or_ge k s.size with hlt | hge
    · have hlow := low_let s k
      have stop : namC s k = false → isNm s = false := isNm_no hlt
      have go : namC s k = true → (∀ j, j < k + 1 → namC s j = true) := fun h j hj => by
        rcases Nat.lt_succ_iff_lt_or_eq.1 hj with h' | rfl
        · exact hp j h'
        · exact h
      have zero : ((k : Int) == 0) = decide (k = 0) := by rw [Bool.eq_iff_iff]; simp
      have body : ∀ b1 b2 b3 b4 : Bool, decide (lowB (byteAt s k) < 97) = b1 → decide (122 < lowB (byteAt s k)) = b2 → decide (byteAt s k < 48) = b3 → decide (57 < byteAt s k) = b4 → namC s k = (!(b1 || b2) || (!(decide (k = 0)) && (!b3 && !b4))) := fun b1 b2 b3 b4 q1 q2 q3 q4 => by
        subst q1 q2 q3 q4
        rw [hlow, Bool.not_not, namC, digB]
        congr 1
        have e1 : decide (k ≠ 0) = !(decide (k = 0)) := by simp
        have e2 : decide (48 ≤ byteAt s k) = !(decide (byteAt s k < 48)) := by rw [← decide_not, decide_eq_decide]; omega
        have e3 : decide (byteAt s k ≤ 57) = !(decide (57 < byteAt s k)) := by rw [← decide_not, decide_eq_decide]; omega
        rw [e1, e2, e3]
      cases q1 : decide (lowB (byteAt s k) < 97) <;> cases q2 : decide (122 < lowB (byteAt s k)) <;> cases q0 : decide (k = 0) <;> cases q3 : decide (byteAt s k < 48) <;> cases q4 : decide (57 < byteAt s k) <;>
        (have hb := body _ _ _ _ q1 q2 q3 q4
         rw [q0] at hb
         simp only [Bool.or_true, Bool.or_false, Bool.true_or, Bool.false_or, Bool.not_true, Bool.not_false, Bool.and_true, Bool.and_false, Bool.true_and, Bool.false_and] at hb
         simp -dsimp only [h0, h6, h7, hlt, ↓or32, zero, q0, q1, q2, q3, q4, ↓preB, postB, genB, ↓reduceIte, Nat.reduceEqDiff, Int.reduceToNat, Int.reduceLE, Int.reduceLT, Nat.reduceAdd, Nat.reduceLeDiff, intBin, strBin, unD, extractD, lit1, lit2, lit3, keptD, boxR, D.one, D.pub1, D.cells, splice, cutOwn]) <;> first
        | exact Ret.is (by rw [stop hb])
        | exact ⟨k + 1, ⟨by omega, go hb, wrap64_succ (by omega)⟩, by omega⟩
    · have hy := isNm_yes (fun j hj => hp j (by omega))
      have he := ne_empty s
      cases c1 : (s == (⟨#[]⟩ : ByteArray))
      · simp -dsimp only [h0, h6, h7, Nat.not_lt.2 hge, c1, ↓preB, postB, genB, ↓reduceIte, Nat.reduceEqDiff, Int.reduceToNat, Int.reduceLE, Int.reduceLT, Nat.reduceAdd, Nat.reduceLeDiff, intBin, strBin, unD, extractD, lit1, lit2, lit3, keptD, boxR, D.one, D.pub1, D.cells, splice, cutOwn]
        intros
        exact Ret.is (by rw [hy, ← he, c1]; simp; omega)
      · simp -dsimp only [h0, h6, h7, Nat.not_lt.2 hge, c1, ↓preB, postB, genB, ↓reduceIte, Nat.reduceEqDiff, Int.reduceToNat, Int.reduceLE, Int.reduceLT, Nat.reduceAdd, Nat.reduceLeDiff, intBin, strBin, unD, extractD, lit1, lit2, lit3, keptD, boxR, D.one, D.pub1, D.cells, splice, cutOwn]
        intros
        exact Ret.is (by rw [hy, ← he, c1]; simp)
end Go.Proofs.YthchlpikcpidaaaDoor.Vs

/- numbers of Ythchlpikcpidaaa -/
namespace Go.Proofs.YthchlpikcpidaaaDoor.Vs
set_option linter.unusedVariables false
set_option linter.unusedSimpArgs false
set_option maxRecDepth 20000
def cellsS : List Smp → List D
  | [] => []
  | x :: l => encSS x.word :: .str x.tag :: .int .i64 x.many :: cellsS l
def encS (l : List Smp) : D := .sl .no l.length (cellsS l)
def aggS (x : Smp) : D := .agg [encSS x.word, .str x.tag, .int .i64 x.many]
theorem cellsS_len : ∀ l : List Smp, (cellsS l).length = l.length * 3
  | [] => rfl
  | x :: l => by simp only [cellsS, List.length_cons, cellsS_len l]; omega
theorem cellsS_append : ∀ a b : List Smp, cellsS (a ++ b) = cellsS a ++ cellsS b
  | [], b => rfl
  | x :: a, b => by simp only [List.cons_append, cellsS, cellsS_append a b]
theorem cellsS_drop : ∀ (l : List Smp) (k : Nat), (cellsS l).drop (k * 3) = cellsS (l.drop k)
  | [], k => by simp [cellsS]
  | x :: l, 0 => by simp
  | x :: l, k + 1 => by
    rw [show (k + 1) * 3 = k * 3 + 3 by omega]
    simp only [cellsS, List.drop_succ_cons]
    exact cellsS_drop l k
theorem cellsS_at {l : List Smp} {k : Nat} (h : k < l.length) : (cellsS l).drop (k * 3) = encSS l[k].word :: .str l[k].tag :: .int .i64 l[k].many :: cellsS (l.drop (k + 1)) := by
  rw [cellsS_drop, List.drop_eq_getElem_cons h]; rfl
theorem cellsS_pos {l : List Smp} {k : Nat} (h : k < l.length) : 0 < (cellsS l).length := by rw [cellsS_len]; omega

/-- A call that leaves the heap as it was and comes to a value of which something is known. -/
def Says (Z : Sys) (f : FuncId) (ds : List D) (P : D → Prop) : Prop := ∀ σ, PCall Z f ds σ (fun d τ => P d ∧ τ = σ)
theorem Says.use {Z : Sys} {f : FuncId} {ds : List D} {P : D → Prop} {σ : Heap} {K : D → Heap → Prop} {h : Keep K} (c : Says Z f ds P) (hk : ∀ d, P d → K d σ) : kCall Z f ds σ K h :=
  PCall.use (c σ) (fun d τ ⟨h1, h2⟩ => by rw [h2]; exact hk d h1)
theorem Says.useP {Z : Sys} {f : FuncId} {ds ds' : List D} {P : D → Prop} {σ : Heap} {K : D → Heap → Prop} {h : Keep K} (c : Says Z f ds' P) (he : ds.map D.pub1 = ds') (hk : ∀ d, P d → K d σ) : kCall Z f ds σ K h :=
  PCall.useP (c σ) he (fun d τ ⟨h1, h2⟩ => by rw [h2]; exact hk d h1)
theorem Ret.says {σ : Heap} {d : D} {P : D → Prop} (h : P d) : Ret σ (fun d τ => P d ∧ τ = σ) d σ := Ret.now (Nat.le_refl _) ⟨h, rfl⟩

theorem IsLong_c (l : List Wd) : Says Zs 11 [encLL l] (fun d => ∃ b, d = .bool b) := by
  intro σ
  refine pcall_of (Z := Zs) ok11 fun hcl hbl => ?_
  simp -dsimp only [L11, encLL, ↓preB, postB, genB, ↓reduceIte, Nat.reduceEqDiff, Int.reduceToNat, Int.reduceLE, Int.reduceLT, Nat.reduceAdd, Nat.reduceLeDiff, intBin, strBin, unD, extractD, lit1, lit2, lit3, keptD, boxR, D.one, D.pub1, D.cells, splice, cutOwn]
  refine pwp_loopG (fun k env s => k ≤ l.length ∧ s = σ ∧ env 4 = .int .i64 (k:Nat) ∧ (∃ n, env 3 = .int .i64 n) ∧ env 0 = encLL l) (fun k => l.length - k) 0 ?_ ?_
  · simp [upd_apply, envOf, encLL]
  · rintro k env s ⟨hk, rfl, h4, ⟨n, h3⟩, h0⟩
    rcases Nat.lt_or_ge k l.length with hlt | hge
    · have hx : l[k]? = some l[k] := List.getElem?_eq_getElem hlt
      have hlp : 0 < l.length := by omega
      by_cases hn : n ≤ 16384
      · simp -dsimp only [h0, h3, h4, encLL, encSS, hlt, hx, hn, hlp, ↓preB, postB, genB, ↓reduceIte, Nat.reduceEqDiff, Int.reduceToNat, Int.reduceLE, Int.reduceLT, Nat.reduceAdd, Nat.reduceLeDiff, intBin, strBin, unD, extractD, lit1, lit2, lit3, keptD, boxR, D.one, D.pub1, D.cells, splice, cutOwn]
        intro hb
        refine pwp_loopG (fun j env' s' => j ≤ l[k].length ∧ s' = s ∧ env' 5 = .int .i64 (j:Nat) ∧ (∃ n, env' 3 = .int .i64 n) ∧ env' 4 = .int .i64 (k:Nat) ∧ env' 0 = encLL l) (fun j => l[k].length - j) 0 ?_ ?_
        · simp [upd_apply, h4, h0, h3]
        · rintro j env' s' ⟨hj, rfl, h5, ⟨n', h3'⟩, h4', h0'⟩
          rcases Nat.lt_or_ge j l[k].length with hjl | hjl
          · have hy : (l[k])[j]? = some ((l[k])[j]) := List.getElem?_eq_getElem hjl
            have hyp : 0 < l[k].length := by omega
            by_cases hn' : n' ≤ 16384
            · simp -dsimp only [h0', h3', h4', h5, encLL, encSS, hlt, hx, hn', hlp, hjl, hy, hyp, ↓preB, postB, genB, ↓reduceIte, Nat.reduceEqDiff, Int.reduceToNat, Int.reduceLE, Int.reduceLT, Nat.reduceAdd, Nat.reduceLeDiff, intBin, strBin, unD, extractD, lit1, lit2, lit3, keptD, boxR, D.one, D.pub1, D.cells, splice, cutOwn]
              intros
              exact ⟨j + 1, ⟨by omega, wrap64_succ (by simp only [big] at *; omega), _, rfl⟩, by omega⟩
            · simp -dsimp only [h0', h3', h4', h5, encLL, encSS, hlt, hx, hn', hlp, hjl, hy, hyp, ↓preB, postB, genB, ↓reduceIte, Nat.reduceEqDiff, Int.reduceToNat, Int.reduceLE, Int.reduceLT, Nat.reduceAdd, Nat.reduceLeDiff, intBin, strBin, unD, extractD, lit1, lit2, lit3, keptD, boxR, D.one, D.pub1, D.cells, splice, cutOwn]
              intros
              exact ⟨k + 1, ⟨by omega, wrap64_succ (by simp only [big] at *; omega), _, rfl⟩, by omega⟩
          · simp -dsimp only [h0', h3', h4', h5, encLL, encSS, hlt, hx, hlp, Nat.not_lt.2 hjl, ↓preB, postB, genB, ↓reduceIte, Nat.reduceEqDiff, Int.reduceToNat, Int.reduceLE, Int.reduceLT, Nat.reduceAdd, Nat.reduceLeDiff, intBin, strBin, unD, extractD, lit1, lit2, lit3, keptD, boxR, D.one, D.pub1, D.cells, splice, cutOwn]
            intros
            exact ⟨k + 1, ⟨by omega, wrap64_succ (by simp only [big] at *; omega), _, rfl⟩, by omega⟩
      · simp -dsimp only [h0, h3, h4, encLL, encSS, hlt, hx, hn, hlp, ↓preB, postB, genB, ↓reduceIte, Nat.reduceEqDiff, Int.reduceToNat, Int.reduceLE, Int.reduceLT, Nat.reduceAdd, Nat.reduceLeDiff, intBin, strBin, unD, extractD, lit1, lit2, lit3, keptD, boxR, D.one, D.pub1, D.cells, splice, cutOwn]
        intros
        exact Ret.says ⟨_, rfl⟩
    · simp -dsimp only [h0, h3, h4, encLL, encSS, Nat.not_lt.2 hge, ↓preB, postB, genB, ↓reduceIte, Nat.reduceEqDiff, Int.reduceToNat, Int.reduceLE, Int.reduceLT, Nat.reduceAdd, Nat.reduceLeDiff, intBin, strBin, unD, extractD, lit1, lit2, lit3, keptD, boxR, D.one, D.pub1, D.cells, splice, cutOwn]
      intros
      exact Ret.says ⟨_, rfl⟩

theorem over_c (l : List Smp) : Says Zs 4 [encS l] (fun d => ∃ b, d = .bool b) := by
  intro σ
  refine pcall_of (Z := Zs) ok4 fun hcl hbl => ?_
  simp -dsimp only [L4, encS, ↓preB, postB, genB, ↓reduceIte, Nat.reduceEqDiff, Int.reduceToNat, Int.reduceLE, Int.reduceLT, Nat.reduceAdd, Nat.reduceLeDiff, intBin, strBin, unD, extractD, lit1, lit2, lit3, keptD, boxR, D.one, D.pub1, D.cells, splice, cutOwn]
  intro hbig
  by_cases c0 : (4000 : Int) < l.length
  · simp -dsimp only [c0, ↓preB, postB, genB, ↓reduceIte, Nat.reduceEqDiff, Int.reduceToNat, Int.reduceLE, Int.reduceLT, Nat.reduceAdd, Nat.reduceLeDiff, intBin, strBin, unD, extractD, lit1, lit2, lit3, keptD, boxR, D.one, D.pub1, D.cells, splice, cutOwn]
    exact Ret.says ⟨_, rfl⟩
  · simp -dsimp only [c0, ↓preB, postB, genB, ↓reduceIte, Nat.reduceEqDiff, Int.reduceToNat, Int.reduceLE, Int.reduceLT, Nat.reduceAdd, Nat.reduceLeDiff, intBin, strBin, unD, extractD, lit1, lit2, lit3, keptD, boxR, D.one, D.pub1, D.cells, splice, cutOwn]
    refine pwp_loopG (fun k env s => k ≤ l.length ∧ s = σ ∧ env 4 = .int .i64 (k:Nat) ∧ (∃ n, env 3 = .int .i64 n) ∧ env 0 = encS l) (fun k => l.length - k) 0 ?_ ?_
    · simp [upd_apply, envOf, encS]
    · rintro k env s ⟨hk, rfl, h4, ⟨n, h3⟩, h0⟩
      rcases Nat.lt_or_ge k l.length with hlt | hge
      · have hd := cellsS_at hlt
        have hpos := cellsS_pos hlt
        by_cases hn : n < 16384
        · simp -dsimp only [h0, h3, h4, encS, encSS, hlt, hd, hpos, hn, hbig, ↓preB, postB, genB, ↓reduceIte, Nat.reduceEqDiff, Int.reduceToNat, Int.reduceLE, Int.reduceLT, Nat.reduceAdd, Nat.reduceLeDiff, intBin, strBin, unD, extractD, lit1, lit2, lit3, keptD, boxR, D.one, D.pub1, D.cells, splice, cutOwn]
          refine Says.useP (IsLong_c [l[k].word]) rfl ?_
          rintro _ ⟨b, rfl⟩
          cases b
          · simp -dsimp only [h0, h3, h4, encS, encSS, hlt, hd, hpos, hn, hbig, ↓preB, postB, genB, ↓reduceIte, Nat.reduceEqDiff, Int.reduceToNat, Int.reduceLE, Int.reduceLT, Nat.reduceAdd, Nat.reduceLeDiff, intBin, strBin, unD, extractD, lit1, lit2, lit3, keptD, boxR, D.one, D.pub1, D.cells, splice, cutOwn]
            refine draw_s ?_
            simp -dsimp only [h0, h3, h4, encS, encSS, hlt, hd, hpos, hn, hbig, ↓preB, postB, genB, ↓reduceIte, Nat.reduceEqDiff, Int.reduceToNat, Int.reduceLE, Int.reduceLT, Nat.reduceAdd, Nat.reduceLeDiff, intBin, strBin, unD, extractD, lit1, lit2, lit3, keptD, boxR, D.one, D.pub1, D.cells, splice, cutOwn]
            exact ⟨k + 1, ⟨by omega, wrap64_succ (by simp only [big] at *; omega), _, rfl⟩, by omega⟩
          · simp -dsimp only [h0, h3, h4, encS, encSS, hlt, hd, hpos, hn, hbig, ↓preB, postB, genB, ↓reduceIte, Nat.reduceEqDiff, Int.reduceToNat, Int.reduceLE, Int.reduceLT, Nat.reduceAdd, Nat.reduceLeDiff, intBin, strBin, unD, extractD, lit1, lit2, lit3, keptD, boxR, D.one, D.pub1, D.cells, splice, cutOwn]
            exact Ret.says ⟨_, rfl⟩
        · simp -dsimp only [h0, h3, h4, encS, hlt, hd, hpos, hn, hbig, ↓preB, postB, genB, ↓reduceIte, Nat.reduceEqDiff, Int.reduceToNat, Int.reduceLE, Int.reduceLT, Nat.reduceAdd, Nat.reduceLeDiff, intBin, strBin, unD, extractD, lit1, lit2, lit3, keptD, boxR, D.one, D.pub1, D.cells, splice, cutOwn]
          exact Ret.says ⟨_, rfl⟩
      · simp -dsimp only [h0, h3, h4, encS, Nat.not_lt.2 hge, hbig, ↓preB, postB, genB, ↓reduceIte, Nat.reduceEqDiff, Int.reduceToNat, Int.reduceLE, Int.reduceLT, Nat.reduceAdd, Nat.reduceLeDiff, intBin, strBin, unD, extractD, lit1, lit2, lit3, keptD, boxR, D.one, D.pub1, D.cells, splice, cutOwn]
        exact Ret.says ⟨_, rfl⟩

theorem any_cons_drop {α : Type} {p : α → Bool} {l : List α} {k : Nat} (h : k < l.length) : (l.drop k).any p = (p l[k] || (l.drop (k + 1)).any p) := by
  rw [List.drop_eq_getElem_cons h, List.any_cons]

theorem checked_c (l : List Smp) : Fn Zs 13 [encS l] (.int .i64 (badS l)) := by
  refine fn_of (Z := Zs) ok13 fun σ hcl hbl => ?_
  simp -dsimp only [L13, encS, ↓preB, postB, genB, ↓reduceIte, Nat.reduceEqDiff, Int.reduceToNat, Int.reduceLE, Int.reduceLT, Nat.reduceAdd, Nat.reduceLeDiff, intBin, strBin, unD, extractD, lit1, lit2, lit3, keptD, boxR, D.one, D.pub1, D.cells, splice, cutOwn]
  intro hbig
  refine pwp_loopG (fun k env s => k ≤ l.length ∧ badLL ((l.drop k).map (·.word)) = badLL (l.map (·.word)) ∧ HLe σ s ∧ env 13 = .int .i64 (k:Nat) ∧ env 12 = .int .i64 l.length ∧ env 11 = encS l ∧ env 0 = encS l) (fun k => l.length - k) 0 ?_ ?_
  · simp [upd_apply, envOf, encS, HLe.refl]
  · rintro k env s ⟨hk, hp, hle, h13, h12, h11, h0⟩
    rcases Nat.lt_or_ge k l.length with hlt | hge
    · have hd := cellsS_at hlt
      have hpos := cellsS_pos hlt
      rw [List.drop_eq_getElem_cons hlt, List.map_cons, badLL_cons] at hp
      simp -dsimp only [h13, h12, h11, h0, encS, hlt, hd, hpos, hbig, ↓preB, postB, genB, ↓reduceIte, Nat.reduceEqDiff, Int.reduceToNat, Int.reduceLE, Int.reduceLT, Nat.reduceAdd, Nat.reduceLeDiff, intBin, strBin, unD, extractD, lit1, lit2, lit3, keptD, boxR, D.one, D.pub1, D.cells, splice, cutOwn]
      refine Fn.use (symsValidateWord_c _) ?_
      cases c2 : (badW l[k].word != 0)
      · rw [c2] at hp
        simp -dsimp only [h13, h12, h11, h0, encS, hlt, hd, hpos, hbig, c2, ↓preB, postB, genB, ↓reduceIte, Nat.reduceEqDiff, Int.reduceToNat, Int.reduceLE, Int.reduceLT, Nat.reduceAdd, Nat.reduceLeDiff, intBin, strBin, unD, extractD, lit1, lit2, lit3, keptD, boxR, D.one, D.pub1, D.cells, splice, cutOwn]
        exact ⟨k + 1, ⟨by omega, by simpa using hp, hle.new' _ hcl, wrap64_succ (by omega)⟩, by omega⟩
      · rw [c2] at hp
        have hb0 : badW l[k].word ≠ 0 := by simpa using c2
        simp -dsimp only [h13, h12, h11, h0, encS, hlt, hd, hpos, hbig, c2, ↓preB, postB, genB, ↓reduceIte, Nat.reduceEqDiff, Int.reduceToNat, Int.reduceLE, Int.reduceLT, Nat.reduceAdd, Nat.reduceLeDiff, intBin, strBin, unD, extractD, lit1, lit2, lit3, keptD, boxR, D.one, D.pub1, D.cells, splice, cutOwn]
        have e1 : badS l = badW l[k].word := by
          have : badLL (l.map (·.word)) = badW l[k].word := by rw [← hp]; rfl
          rw [badS, this, if_pos hb0]
        exact Ret.less (hle.new' _ hcl) hcl (by rw [e1]; exact .refl _) (.int _ _)
    · rw [List.drop_of_length_le hge] at hp
      have hw0 : badLL (l.map (·.word)) = 0 := by rw [← hp]; rfl
      simp -dsimp only [h13, h12, h11, h0, encS, Nat.not_lt.2 hge, hbig, ↓preB, postB, genB, ↓reduceIte, Nat.reduceEqDiff, Int.reduceToNat, Int.reduceLE, Int.reduceLT, Nat.reduceAdd, Nat.reduceLeDiff, intBin, strBin, unD, extractD, lit1, lit2, lit3, keptD, boxR, D.one, D.pub1, D.cells, splice, cutOwn]
      refine pwp_loopG (fun k env s => k ≤ l.length ∧ (l.drop k).any oddS = l.any oddS ∧ HLe σ s ∧ env 26 = .int .i64 (k:Nat) ∧ env 25 = .int .i64 l.length ∧ env 24 = encS l ∧ env 0 = encS l ∧ env 6 = .int .i64 0) (fun k => l.length - k) 0 ?_ ?_
      · simp [upd_apply, h0, encS, hle]
      · clear h13 h12 h11 h0 hk hge hp hle
        rintro k env s ⟨hk, hp, hle, h13, h12, h11, h0, h6⟩
        rcases Nat.lt_or_ge k l.length with hlt | hge
        · have hd := cellsS_at hlt
          have hpos := cellsS_pos hlt
          rw [any_cons_drop hlt] at hp
          simp -dsimp only [h13, h12, h11, h0, encS, hlt, hd, hpos, hbig, ↓preB, postB, genB, ↓reduceIte, Nat.reduceEqDiff, Int.reduceToNat, Int.reduceLE, Int.reduceLT, Nat.reduceAdd, Nat.reduceLeDiff, intBin, strBin, unD, extractD, lit1, lit2, lit3, keptD, boxR, D.one, D.pub1, D.cells, splice, cutOwn]
          refine Fn.use (isName_c _) ?_
          have stop : oddS l[k] = true → badS l = 1 := fun h => by
            rw [h, Bool.true_or] at hp
            rw [badS, if_neg (fun h => h hw0), if_pos hp.symm]
          cases c1 : isNm l[k].tag
          · simp -dsimp only [h13, h12, h11, h0, encS, hlt, hd, hpos, hbig, c1, ↓preB, postB, genB, ↓reduceIte, Nat.reduceEqDiff, Int.reduceToNat, Int.reduceLE, Int.reduceLT, Nat.reduceAdd, Nat.reduceLeDiff, intBin, strBin, unD, extractD, lit1, lit2, lit3, keptD, boxR, D.one, D.pub1, D.cells, splice, cutOwn]
            exact Ret.less (hle.new' _ hcl) hcl (by rw [stop (by simp [oddS, c1])]; exact .refl _) (.int _ _)
          · by_cases c2 : l[k].many < 1
            · simp -dsimp only [h13, h12, h11, h0, encS, hlt, hd, hpos, hbig, c1, c2, ↓preB, postB, genB, ↓reduceIte, Nat.reduceEqDiff, Int.reduceToNat, Int.reduceLE, Int.reduceLT, Nat.reduceAdd, Nat.reduceLeDiff, intBin, strBin, unD, extractD, lit1, lit2, lit3, keptD, boxR, D.one, D.pub1, D.cells, splice, cutOwn]
              exact Ret.less (hle.new' _ hcl) hcl (by rw [stop (by simp [oddS, c1, c2])]; exact .refl _) (.int _ _)
            · simp -dsimp only [h13, h12, h11, h0, encS, hlt, hd, hpos, hbig, c1, c2, ↓preB, postB, genB, ↓reduceIte, Nat.reduceEqDiff, Int.reduceToNat, Int.reduceLE, Int.reduceLT, Nat.reduceAdd, Nat.reduceLeDiff, intBin, strBin, unD, extractD, lit1, lit2, lit3, keptD, boxR, D.one, D.pub1, D.cells, splice, cutOwn]
              refine ⟨k + 1, ⟨by omega, ?_, hle.new' _ hcl, wrap64_succ (by omega), h6⟩, by omega⟩
              rw [← hp]; simp [oddS, c1, c2]
        · rw [List.drop_of_length_le hge] at hp
          have ho0 : l.any oddS = false := by rw [← hp]; rfl
          have hbs : badS l = sumE l 0 := by rw [badS, if_neg (fun h => h hw0), if_neg (by rw [ho0]; simp)]
          have hpos1 : ∀ x ∈ l, 1 ≤ x.many := fun x hx => by
            have := List.any_eq_false.1 ho0 x hx
            simp [oddS] at this
            omega
          simp -dsimp only [h13, h12, h11, h0, encS, Nat.not_lt.2 hge, hbig, ↓preB, postB, genB, ↓reduceIte, Nat.reduceEqDiff, Int.reduceToNat, Int.reduceLE, Int.reduceLT, Nat.reduceAdd, Nat.reduceLeDiff, intBin, strBin, unD, extractD, lit1, lit2, lit3, keptD, boxR, D.one, D.pub1, D.cells, splice, cutOwn]
          refine pwp_loopG (fun k env s => k ≤ l.length ∧ (∃ a, env 6 = .int .i64 a ∧ 0 ≤ a ∧ a ≤ 1000 ∧ sumE (l.drop k) a = sumE l 0) ∧ HLe σ s ∧ env 42 = .int .i64 (k:Nat) ∧ env 41 = .int .i64 l.length ∧ env 40 = encS l) (fun k => l.length - k) 0 ?_ ?_
          · simp [upd_apply, h0, encS, hle, h6]
          · clear h13 h12 h11 h0 hk hge hp hle h6
            rintro k env s ⟨hk, ⟨a, h6, ha0, ha1, hp⟩, hle, h13, h12, h11⟩
            rcases Nat.lt_or_ge k l.length with hlt | hge
            · have hd := cellsS_at hlt
              have hpos := cellsS_pos hlt
              have hm := hpos1 _ (List.getElem_mem hlt)
              rw [List.drop_eq_getElem_cons hlt, sumE] at hp
              by_cases c1 : 1000 < l[k].many
              · rw [if_pos c1] at hp
                simp -dsimp only [h13, h12, h11, h6, encS, hlt, hd, hpos, hbig, c1, ↓preB, postB, genB, ↓reduceIte, Nat.reduceEqDiff, Int.reduceToNat, Int.reduceLE, Int.reduceLT, Nat.reduceAdd, Nat.reduceLeDiff, intBin, strBin, unD, extractD, lit1, lit2, lit3, keptD, boxR, D.one, D.pub1, D.cells, splice, cutOwn]
                exact Ret.less (hle.new' _ hcl) hcl (by rw [hbs, ← hp]; exact .refl _) (.int _ _)
              · rw [if_neg c1] at hp
                have hw : IntKind.i64.wrap (a + l[k].many) = a + l[k].many := wrap64_in (by omega) (by omega)
                by_cases c2 : 1000 < a + l[k].many
                · rw [if_pos c2] at hp
                  simp -dsimp only [h13, h12, h11, h6, encS, hlt, hd, hpos, hbig, c1, hw, c2, ↓preB, postB, genB, ↓reduceIte, Nat.reduceEqDiff, Int.reduceToNat, Int.reduceLE, Int.reduceLT, Nat.reduceAdd, Nat.reduceLeDiff, intBin, strBin, unD, extractD, lit1, lit2, lit3, keptD, boxR, D.one, D.pub1, D.cells, splice, cutOwn]
                  exact Ret.less (hle.new' _ hcl) hcl (by rw [hbs, ← hp]; exact .refl _) (.int _ _)
                · rw [if_neg c2] at hp
                  simp -dsimp only [h13, h12, h11, h6, encS, hlt, hd, hpos, hbig, c1, hw, c2, ↓preB, postB, genB, ↓reduceIte, Nat.reduceEqDiff, Int.reduceToNat, Int.reduceLE, Int.reduceLT, Nat.reduceAdd, Nat.reduceLeDiff, intBin, strBin, unD, extractD, lit1, lit2, lit3, keptD, boxR, D.one, D.pub1, D.cells, splice, cutOwn]
                  exact ⟨k + 1, ⟨by omega, ⟨by omega, by omega, hp⟩, hle.new' _ hcl, wrap64_succ (by omega)⟩, by omega⟩
            · rw [List.drop_of_length_le hge] at hp
              simp -dsimp only [h13, h12, h11, h6, encS, Nat.not_lt.2 hge, hbig, ↓preB, postB, genB, ↓reduceIte, Nat.reduceEqDiff, Int.reduceToNat, Int.reduceLE, Int.reduceLT, Nat.reduceAdd, Nat.reduceLeDiff, intBin, strBin, unD, extractD, lit1, lit2, lit3, keptD, boxR, D.one, D.pub1, D.cells, splice, cutOwn]
              exact Ret.less hle hcl (by rw [hbs, ← hp]; exact .refl _) (.int _ _)
end Go.Proofs.YthchlpikcpidaaaDoor.Vs

/- numbers of Ythchlpikcpidaaa -/
namespace Go.Proofs.YthchlpikcpidaaaDoor.Vs
set_option linter.unusedVariables false
set_option linter.unusedSimpArgs false
set_option maxRecDepth 20000
/-- The reference's guesser in memory. -/
def RGat (L : List Smp) (q : Nat) (σ : Heap) : Prop := ∃ d, σ.get q = some (.cells 60 [d]) ∧ ((L = [] ∧ d = .sl .nil 0 []) ∨ (L ≠ [] ∧ ∃ r js, r ≠ q ∧ d = .row r 0 L.length none 3 ∧ σ.get r = some (.cells 25 (cellsS L ++ js))))
theorem cellsS_j {L : List Smp} {k : Nat} (h : k < L.length) (js : List D) : (cellsS L ++ js)[k * 3]? = some (encSS L[k].word) ∧ (cellsS L ++ js)[k * 3 + 1]? = some (.str L[k].tag) ∧ (cellsS L ++ js)[k * 3 + 2]? = some (.int .i64 L[k].many) := by
  have hd := cellsS_at h
  have hl := cellsS_len L
  refine ⟨?_, ?_, ?_⟩
  · rw [List.getElem?_append_left (by omega)]
    have := congrArg (fun l => l[0]?) hd
    simpa using this
  · rw [List.getElem?_append_left (by omega)]
    have := congrArg (fun l => l[1]?) hd
    simpa using this
  · rw [List.getElem?_append_left (by omega)]
    have := congrArg (fun l => l[2]?) hd
    simpa using this

theorem RGat.new {L : List Smp} {q : Nat} {σ : Heap} (h : RGat L q σ) (hc : ∀ r o, σ.get r = some o → r < σ.next) (o : AO) : RGat L q (σ.new o) := by
  have key : ∀ r x, σ.get r = some x → (σ.new o).get r = some x := fun r x hr => by rw [Heap.new_get, if_neg (by have := hc r x hr; omega)]; exact hr
  obtain ⟨d, hq, hd⟩ := h
  refine ⟨d, key _ _ hq, ?_⟩
  rcases hd with h | ⟨h1, r, js, h2, h3, h4⟩
  · exact .inl h
  · exact .inr ⟨h1, r, js, h2, h3, key _ _ h4⟩

end Go.Proofs.YthchlpikcpidaaaDoor.Vs
