import Derived.Test.YtldlcejlfaogbaaGreatDoorFnBx
/- The row that fits, and what a step is. -/
namespace Go.Proofs.YtldlcejlfaogbaaGreatDoor.Vs
set_option linter.unusedVariables false
set_option linter.unusedSimpArgs false
set_option maxRecDepth 20000
theorem fit_c (t : List Sh) (w : Wd) : Fn Zs 144 [encT t, encSS w] (.int .i64 (optI (fitW t w))) := by
  refine fn_of (Z := Zs) ok144 fun σ hcl hbl => ?_
  simp -dsimp only [L144, encT, ↓preB, postB, genB, ↓reduceIte, Nat.reduceEqDiff, Int.reduceToNat, Int.reduceLE, Int.reduceLT, Nat.reduceAdd, Nat.reduceLeDiff, intBin, strBin, unD, extractD, lit1, lit2, lit3, keptD, boxR, D.one, D.pub1, D.cells, splice, cutOwn]
  intro hbig
  refine pwp_loopG (fun k env s => k ≤ t.length ∧ (∃ b, (∀ j, b = some j → j < k) ∧ env 5 = .int .i64 (optI b) ∧ fitFrom t w (t.length - k) b k = fitW t w) ∧ HLe σ s ∧ env 10 = .int .i64 (k:Nat) ∧ env 9 = .int .i64 t.length ∧ env 8 = encT t ∧ env 0 = encT t ∧ env 1 = encSS w) (fun k => t.length - k) 0 ?_ ?_
  · simp only [upd_apply, envOf_apply, encT, Nat.reduceEqDiff, if_true, if_false]
    exact ⟨Nat.zero_le _, ⟨none, by simp, rfl, rfl⟩, HLe.refl σ, rfl, trivial, trivial, rfl, rfl⟩
  · rintro k env s ⟨hk, ⟨b, hb, h5, hp⟩, hH, h10, h9, h8, h0, h1⟩
    rcases Nat.lt_or_ge k t.length with hlt | hge
    · have hd := rowsD_at hlt
      have hpos : 0 < (rowsD t).length := by rw [rowsD_len]; omega
      rw [show t.length - k = (t.length - (k + 1)) + 1 by omega, fitFrom] at hp
      have hx : t[k]? = some t[k] := List.getElem?_eq_getElem hlt
      simp -dsimp only [h5, h10, h9, h8, h0, h1, encT, hlt, hd, hpos, ↓preB, postB, genB, ↓reduceIte, Nat.reduceEqDiff, Int.reduceToNat, Int.reduceLE, Int.reduceLT, Nat.reduceAdd, Nat.reduceLeDiff, intBin, strBin, unD, extractD, lit1, lit2, lit3, keptD, boxR, D.one, D.pub1, D.cells, splice, cutOwn]
      have hH' : ∀ o, HLe σ (s.new o) := fun o => hH.new' o hcl
      refine draw_s ?_
      simp -dsimp only [h5, h10, h9, h8, h0, h1, encT, hlt, hd, hpos, ↓preB, postB, genB, ↓reduceIte, Nat.reduceEqDiff, Int.reduceToNat, Int.reduceLE, Int.reduceLT, Nat.reduceAdd, Nat.reduceLeDiff, intBin, strBin, unD, extractD, lit1, lit2, lit3, keptD, boxR, D.one, D.pub1, D.cells, splice, cutOwn]
      refine Fn.useS (begins_c w _) ?_
      have hnext : ∀ c : Bool, (begW w t[k].From && longer t b t[k].From.length) = c → bestI t b k w = if c = true then some k else b := fun c hc => by
        simp only [bestI, hx, hc]
      cases c1 : begW w t[k].From
      · simp -dsimp only [h5, h10, h9, h8, h0, h1, encT, hlt, hd, hpos, ↓preB, postB, genB, ↓reduceIte, Nat.reduceEqDiff, Int.reduceToNat, Int.reduceLE, Int.reduceLT, Nat.reduceAdd, Nat.reduceLeDiff, intBin, strBin, unD, extractD, lit1, lit2, lit3, keptD, boxR, D.one, D.pub1, D.cells, splice, cutOwn]
        rw [hnext false (by rw [c1]; rfl)] at hp
        exact ⟨k + 1, ⟨by omega, ⟨b, fun j hj => by have := hb j hj; omega, rfl, hp⟩, hH' _, wrap64_succ (by omega)⟩, by omega⟩
      · cases b with
        | none =>
          simp -dsimp only [h5, h10, h9, h8, h0, h1, encT, hlt, hd, hpos, optI_none, neg1, ↓preB, postB, genB, ↓reduceIte, Nat.reduceEqDiff, Int.reduceToNat, Int.reduceLE, Int.reduceLT, Nat.reduceAdd, Nat.reduceLeDiff, intBin, strBin, unD, extractD, lit1, lit2, lit3, keptD, boxR, D.one, D.pub1, D.cells, splice, cutOwn]
          rw [hnext true (by rw [c1]; rfl)] at hp
          exact ⟨k + 1, ⟨by omega, ⟨some k, fun j hj => by cases hj; omega, rfl, hp⟩, hH' _, wrap64_succ (by omega)⟩, by omega⟩
        | some j =>
          have hj := hb j rfl
          have hjt : j < t.length := by omega
          have hdj := rowsD_at hjt
          have hlj : longer t (some j) t[k].From.length = decide (t[j].From.length < t[k].From.length) := by simp [longer, hjt]
          by_cases c2 : t[j].From.length < t[k].From.length
          · simp -dsimp only [h5, h10, h9, h8, h0, h1, encT, encSS, hlt, hjt, hd, hdj, optI_some, natneg, hpos, c2, ↓preB, postB, genB, ↓reduceIte, Nat.reduceEqDiff, Int.reduceToNat, Int.reduceLE, Int.reduceLT, Nat.reduceAdd, Nat.reduceLeDiff, intBin, strBin, unD, extractD, lit1, lit2, lit3, keptD, boxR, D.one, D.pub1, D.cells, splice, cutOwn]
            rw [hnext true (by rw [c1, hlj]; simp [c2])] at hp
            exact ⟨k + 1, ⟨by omega, ⟨some k, fun j hj => by cases hj; omega, rfl, hp⟩, hH' _, wrap64_succ (by omega)⟩, by omega⟩
          · simp -dsimp only [h5, h10, h9, h8, h0, h1, encT, encSS, hlt, hjt, hd, hdj, optI_some, natneg, hpos, c2, ↓preB, postB, genB, ↓reduceIte, Nat.reduceEqDiff, Int.reduceToNat, Int.reduceLE, Int.reduceLT, Nat.reduceAdd, Nat.reduceLeDiff, intBin, strBin, unD, extractD, lit1, lit2, lit3, keptD, boxR, D.one, D.pub1, D.cells, splice, cutOwn]
            rw [hnext false (by rw [c1, hlj]; simp; omega)] at hp
            exact ⟨k + 1, ⟨by omega, ⟨some j, fun j' hj' => by cases hj'; omega, rfl, hp⟩, hH' _, wrap64_succ (by omega)⟩, by omega⟩
    · simp -dsimp only [h5, h10, h9, h8, h0, h1, encT, Nat.not_lt.2 hge, ↓preB, postB, genB, ↓reduceIte, Nat.reduceEqDiff, Int.reduceToNat, Int.reduceLE, Int.reduceLT, Nat.reduceAdd, Nat.reduceLeDiff, intBin, strBin, unD, extractD, lit1, lit2, lit3, keptD, boxR, D.one, D.pub1, D.cells, splice, cutOwn]
      refine Ret.isH hH hcl ?_ (.int _ _)
      rw [← hp, show t.length - k = 0 by omega]; rfl

theorem fitFrom_lt (t : List Sh) (w : Wd) : ∀ (n : Nat) (b : Option Nat) (k : Nat), (∀ j, b = some j → j < t.length) → ∀ j, fitFrom t w n b k = some j → j < t.length
  | 0, b, k, hb, j, h => hb j h
  | n + 1, b, k, hb, j, h => by
    refine fitFrom_lt t w n _ _ (fun i hi => ?_) j h
    unfold bestI at hi
    split at hi
    · exact hb i hi
    · rename_i r hr
      split at hi
      · cases hi; exact (List.getElem?_eq_some_iff.1 hr).1
      · exact hb i hi
theorem fitW_lt {t : List Sh} {w : Wd} {j : Nat} (h : fitW t w = some j) : j < t.length := fitFrom_lt t w _ _ _ (by simp) j h
theorem fitFrom_beg (t : List Sh) (w : Wd) : ∀ (n : Nat) (b : Option Nat) (k : Nat), (∀ j, b = some j → ∃ r, t[j]? = some r ∧ begW w r.From = true) → ∀ j, fitFrom t w n b k = some j → ∃ r, t[j]? = some r ∧ begW w r.From = true
  | 0, b, k, hb, j, h => hb j h
  | n + 1, b, k, hb, j, h => by
    refine fitFrom_beg t w n _ _ (fun i hi => ?_) j h
    unfold bestI at hi
    split at hi
    · exact hb i hi
    · rename_i r hr
      split at hi
      · rename_i hc
        cases hi
        rw [Bool.and_eq_true] at hc
        exact ⟨r, hr, hc.1⟩
      · exact hb i hi
theorem fitW_beg {t : List Sh} {w : Wd} {j : Nat} (h : fitW t w = some j) : ∃ r, t[j]? = some r ∧ begW w r.From = true := fitFrom_beg t w _ _ _ (by simp) j h
def stepTo (t : List Sh) (w : Wd) : Wd := match fitW t w with | none => w.take 1 | some k => ((t[k]?).map (·.To)).getD []
def stepN (t : List Sh) (w : Wd) : Nat := match fitW t w with | none => 1 | some k => ((t[k]?).map (·.From.length)).getD 0

theorem step_c (t : List Sh) (w : Wd) (hw : w ≠ []) : Fn Zs 96 [encT t, encSS w] (.tup [encSS (stepTo t w), .int .i64 (stepN t w), .int .i64 (optI (fitW t w))]) := by
  have hw1 : 1 ≤ w.length := by cases w with | nil => exact absurd rfl hw | cons a l => simp
  refine fn_of (Z := Zs) ok96 fun σ hcl hbl => ?_
  simp -dsimp only [L96, ↓preB, postB, genB, ↓reduceIte, Nat.reduceEqDiff, Int.reduceToNat, Int.reduceLE, Int.reduceLT, Nat.reduceAdd, Nat.reduceLeDiff, intBin, strBin, unD, extractD, lit1, lit2, lit3, keptD, boxR, D.one, D.pub1, D.cells, splice, cutOwn]
  refine Fn.use (fit_c t w) ?_
  cases hf : fitW t w with
  | none =>
    simp -dsimp only [optI_none, neg1, encSS, ↓preB, postB, genB, ↓reduceIte, Nat.reduceEqDiff, Int.reduceToNat, Int.reduceLE, Int.reduceLT, Nat.reduceAdd, Nat.reduceLeDiff, intBin, strBin, unD, extractD, lit1, lit2, lit3, keptD, boxR, D.one, D.pub1, D.cells, splice, cutOwn]
    refine ⟨⟨by omega, by omega⟩, Ret.is ?_⟩
    have e1 : stepTo t w = w.take 1 := by simp [stepTo, hf]
    have e2 : stepN t w = 1 := by simp [stepN, hf]
    rw [e1, e2]
    simp [Nat.min_eq_left hw1]
  | some j =>
    have hj := fitW_lt hf
    have hd := rowsD_at hj
    have hpos : 0 < (rowsD t).length := by rw [rowsD_len]; omega
    simp -dsimp only [optI_some, natneg, encT, hj, hd, hpos, ↓preB, postB, genB, ↓reduceIte, Nat.reduceEqDiff, Int.reduceToNat, Int.reduceLE, Int.reduceLT, Nat.reduceAdd, Nat.reduceLeDiff, intBin, strBin, unD, extractD, lit1, lit2, lit3, keptD, boxR, D.one, D.pub1, D.cells, splice, cutOwn]
    refine draw_s ?_
    simp -dsimp only [optI_some, natneg, encT, encSS, hj, hd, hpos, ↓preB, postB, genB, ↓reduceIte, Nat.reduceEqDiff, Int.reduceToNat, Int.reduceLE, Int.reduceLT, Nat.reduceAdd, Nat.reduceLeDiff, intBin, strBin, unD, extractD, lit1, lit2, lit3, keptD, boxR, D.one, D.pub1, D.cells, splice, cutOwn]
    exact Ret.is (by simp [stepTo, stepN, hf, hj])

/-- A shifted word, and whether it was clean; so many steps at most. -/
def shiftF (t : List Sh) : Nat → Wd → Wd × Bool
  | 0, _ => ([], true)
  | n + 1, w => if w.length = 0 then ([], true) else
    let r := shiftF t n (w.drop (stepN t w))
    (stepTo t w ++ r.1, decide (0 ≤ optI (fitW t w)) && r.2)
def shiftW (t : List Sh) (w : Wd) : Wd × Bool := shiftF t w.length w

theorem stepN_pos {t : List Sh} {w : Wd} (ht : ∀ r ∈ t, r.From ≠ []) (hw : w ≠ []) : 1 ≤ stepN t w ∧ stepN t w ≤ w.length := by
  have hw1 : 1 ≤ w.length := by cases w with | nil => exact absurd rfl hw | cons a l => simp
  unfold stepN
  cases hf : fitW t w with
  | none => exact ⟨Nat.le_refl _, hw1⟩
  | some j =>
    obtain ⟨r, hr, hb⟩ := fitW_beg hf
    have h1 := begW_le hb
    have h2 := ht r (List.mem_of_getElem? hr)
    simp only [hr, Option.map_some, Option.getD_some]
    exact ⟨by cases hq : r.From with | nil => exact absurd hq h2 | cons a l => simp, h1⟩
theorem stepTo_le {t : List Sh} {w : Wd} (ht : ∀ r ∈ t, r.To.length ≤ 60) : (stepTo t w).length ≤ 60 := by
  unfold stepTo
  cases hf : fitW t w with
  | none => simp; omega
  | some j =>
    obtain ⟨r, hr, hb⟩ := fitW_beg hf
    simp only [hr, Option.map_some, Option.getD_some]
    exact ht r (List.mem_of_getElem? hr)

theorem shifted_c (t : List Sh) (w : Wd) (h1 : ∀ r ∈ t, r.From ≠ []) (h2 : ∀ r ∈ t, r.To.length ≤ 60) (h3 : w.length ≤ 1000) : Fn Zs 42 [encT t, encSS w] (.tup [encSS (shiftW t w).1, .bool (shiftW t w).2]) := by
  refine fn_of (Z := Zs) ok42 fun σ hcl hbl => ?_
  simp -dsimp only [L42, encT, ↓preB, postB, genB, ↓reduceIte, Nat.reduceEqDiff, Int.reduceToNat, Int.reduceLE, Int.reduceLT, Nat.reduceAdd, Nat.reduceLeDiff, intBin, strBin, unD, extractD, lit1, lit2, lit3, keptD, boxR, D.one, D.pub1, D.cells, splice, cutOwn]
  refine pwp_loopG (fun (x : Wd × Wd × Bool) env s => (∃ n, x.1.length ≤ n ∧ x.2.1.length + 60 * n ≤ 60 * w.length ∧ x.2.1 ++ (shiftF t n x.1).1 = (shiftW t w).1 ∧ (x.2.2 && (shiftF t n x.1).2) = (shiftW t w).2) ∧ Acc 9 1 σ x.2.1.length (x.2.1.map .str) (env 6) s ∧ env 7 = .bool x.2.2 ∧ env 1 = encSS x.1 ∧ env 0 = encT t) (fun x => x.1.length) (w, [], true) ?_ ?_
  · simp only [upd_apply, envOf_apply, encT, Nat.reduceEqDiff, if_true, if_false]
    exact ⟨⟨w.length, Nat.le_refl _, by simp, rfl, by simp [shiftW]⟩, Acc.nil (HLe.refl _), trivial, rfl, rfl⟩
  · rintro ⟨rest, out, cl⟩ env s ⟨⟨n, hn, hsz, hp1, hp2⟩, hA, h7, h1', h0⟩
    simp only at hn hsz hp1 hp2 hA h7 h1'
    by_cases hr : rest = []
    · have hneg : ¬ (0 : Int) < rest.length := by rw [hr]; simp
      simp -dsimp only [h7, h1', h0, hneg, encSS, encT, ↓preB, postB, genB, ↓reduceIte, Nat.reduceEqDiff, Int.reduceToNat, Int.reduceLE, Int.reduceLT, Nat.reduceAdd, Nat.reduceLeDiff, intBin, strBin, unD, extractD, lit1, lit2, lit3, keptD, boxR, D.one, D.pub1, D.cells, splice, cutOwn]
      intros
      have e0 : shiftF t n rest = ([], true) := by
        cases n with
        | zero => rfl
        | succ n => simp [shiftF, hr]
      rw [e0] at hp1 hp2
      simp only [List.append_nil, Bool.and_true] at hp1 hp2
      rw [← hp1, ← hp2]
      exact Ret.less hA.le hcl (.tup2 hA.told (.refl _)) (.tup2 (.no (bel_strs _)) (.bool _))
    · have hpos : 0 < rest.length := List.length_pos_iff.2 hr
      have hpos' : (0 : Int) < rest.length := by omega
      obtain ⟨hs1, hs2⟩ := stepN_pos h1 hr
      have hst := stepTo_le (t := t) (w := rest) h2
      obtain ⟨n, rfl⟩ : ∃ m, n = m + 1 := ⟨n - 1, by omega⟩
      have hne : ¬ rest.length = 0 := by omega
      simp only [shiftF, hne, if_false] at hp1 hp2
      simp -dsimp only [h7, h1', h0, hpos', encSS, ↓preB, postB, genB, ↓reduceIte, Nat.reduceEqDiff, Int.reduceToNat, Int.reduceLE, Int.reduceLT, Nat.reduceAdd, Nat.reduceLeDiff, intBin, strBin, unD, extractD, lit1, lit2, lit3, keptD, boxR, D.one, D.pub1, D.cells, splice, cutOwn]
      intro hbig
      refine Fn.use (step_c t rest hr) ?_
      simp -dsimp only [h7, h1', h0, hpos', encSS, ↓preB, postB, genB, ↓reduceIte, Nat.reduceEqDiff, Int.reduceToNat, Int.reduceLE, Int.reduceLT, Nat.reduceAdd, Nat.reduceLeDiff, intBin, strBin, unD, extractD, lit1, lit2, lit3, keptD, boxR, D.one, D.pub1, D.cells, splice, cutOwn]
      refine hA.append hcl tz23 rfl tz9 rfl rfl rfl (by decide) (by simp) (fedBy_sl tz23 rfl (by simp)) (by simp only []; omega) (by simp only [big]; omega) fun d' s' hA' => ?_
      have hfin : ∃ y : Wd × Wd × Bool, ((∃ m, y.1.length ≤ m ∧ y.2.1.length + 60 * m ≤ 60 * w.length ∧ y.2.1 ++ (shiftF t m y.1).1 = (shiftW t w).1 ∧ (y.2.2 && (shiftF t m y.1).2) = (shiftW t w).2) ∧
          Acc 9 1 σ y.2.1.length (y.2.1.map .str) d' s' ∧ D.bool (cl && decide (0 ≤ optI (fitW t rest))) = .bool y.2.2 ∧ D.sl .no (rest.length - stepN t rest) (((rest.map D.str).drop (stepN t rest)).take (rest.length - stepN t rest)) = encSS y.1 ∧ encT t = encT t) ∧ y.1.length < rest.length := by
        refine ⟨(rest.drop (stepN t rest), out ++ stepTo t rest, cl && decide (0 ≤ optI (fitW t rest))), ⟨⟨n, ?_, ?_, ?_, ?_⟩, ?_, rfl, ?_, rfl⟩, ?_⟩
        · simp only [List.length_drop]; omega
        · simp only [List.length_append]; omega
        · rw [← hp1, List.append_assoc]
        · rw [← hp2, Bool.and_assoc]
        · simpa using hA'
        · exact encSS_drop rest _ hs2
        · simp only [List.length_drop]; omega
      cases cl
      · simp -dsimp only [h7, h1', h0, hpos', encSS, ↓preB, postB, genB, ↓reduceIte, Nat.reduceEqDiff, Int.reduceToNat, Int.reduceLE, Int.reduceLT, Nat.reduceAdd, Nat.reduceLeDiff, intBin, strBin, unD, extractD, lit1, lit2, lit3, keptD, boxR, D.one, D.pub1, D.cells, splice, cutOwn]
        refine ⟨⟨by omega, by omega⟩, ?_⟩
        obtain ⟨y, ⟨hq, hA2, hb2, he, _⟩, hlt⟩ := hfin
        exact ⟨y, ⟨hq, hA2, by simpa using hb2, he⟩, hlt⟩
      · simp -dsimp only [h7, h1', h0, hpos', encSS, ↓preB, postB, genB, ↓reduceIte, Nat.reduceEqDiff, Int.reduceToNat, Int.reduceLE, Int.reduceLT, Nat.reduceAdd, Nat.reduceLeDiff, intBin, strBin, unD, extractD, lit1, lit2, lit3, keptD, boxR, D.one, D.pub1, D.cells, splice, cutOwn]
        refine ⟨⟨by omega, by omega⟩, ?_⟩
        obtain ⟨y, ⟨hq, hA2, hb2, he, _⟩, hlt⟩ := hfin
        exact ⟨y, ⟨hq, hA2, by simpa using hb2, he⟩, hlt⟩
end Go.Proofs.YtldlcejlfaogbaaGreatDoor.Vs

/- Which tables there are. -/
namespace Go.Proofs.YtldlcejlfaogbaaGreatDoor.Vs
set_option linter.unusedVariables false
set_option linter.unusedSimpArgs false
set_option maxRecDepth 20000
def rowE (r : Sh) : Int := if badW r.From != 0 then badW r.From else badW r.To
def firstE : List Sh → Int
  | [] => 0
  | r :: t => if rowE r != 0 then rowE r else firstE t
def badO (p : Option Wd) (r : Sh) : Bool := r.From.length == 0 || (match p with | none => false | some q => decide (0 ≤ ordW q r.From))
def ordBad : Option Wd → List Sh → Bool
  | _, [] => false
  | p, r :: t => badO p r || ordBad (some r.From) t
def prevF (t : List Sh) (k : Nat) : Option Wd := if k = 0 then none else (t[k - 1]?).map (·.From)
def badT (t : List Sh) : Int := if 24 < t.length then 3 else if firstE t != 0 then firstE t else if ordBad none t then 1 else 0

theorem words2 (r : Sh) : ((([r.From, r.To]).map badW).find? (fun e => e != 0)).getD 0 = rowE r := by
  simp only [List.map_cons, List.map_nil, List.find?_cons, List.find?_nil, rowE]
  cases h1 : (badW r.From != 0)
  · cases h2 : (badW r.To != 0)
    · simp at h2; simp [h2]
    · simp
  · simp
theorem badO_prev {t : List Sh} {k : Nat} (h : k < t.length) (h0 : k ≠ 0) : badO (prevF t k) t[k] = ((t[k].From).length == 0 || decide (0 ≤ ordW (t[k-1]'(by omega)).From t[k].From)) := by
  have : (t[k - 1]?) = some (t[k-1]'(by omega)) := List.getElem?_eq_getElem (by omega)
  simp [badO, prevF, h0, this]
theorem prevF_next {t : List Sh} {k : Nat} (h : k < t.length) : prevF t (k + 1) = some t[k].From := by
  simp [prevF, h]

theorem wrap64_pred {k : Nat} (h : k ≠ 0) (h2 : k ≤ big) : IntKind.i64.wrap ((k : Int) - 1) = ((k - 1 : Nat) : Int) := by
  rw [wrap64_in] <;> simp only [big] at h2 <;> omega
theorem refValidate_c (t : List Sh) : Fn Zs 20 [encT t] (.int .i64 (badT t)) := by
  refine fn_of (Z := Zs) ok20 fun σ hcl hbl => ?_
  simp -dsimp only [L20, encT, ↓preB, postB, genB, ↓reduceIte, Nat.reduceEqDiff, Int.reduceToNat, Int.reduceLE, Int.reduceLT, Nat.reduceAdd, Nat.reduceLeDiff, intBin, strBin, unD, extractD, lit1, lit2, lit3, keptD, boxR, D.one, D.pub1, D.cells, splice, cutOwn]
  intro hbig
  by_cases c0 : (24 : Int) < t.length
  · simp -dsimp only [c0, ↓preB, postB, genB, ↓reduceIte, Nat.reduceEqDiff, Int.reduceToNat, Int.reduceLE, Int.reduceLT, Nat.reduceAdd, Nat.reduceLeDiff, intBin, strBin, unD, extractD, lit1, lit2, lit3, keptD, boxR, D.one, D.pub1, D.cells, splice, cutOwn]
    exact Ret.is (by rw [badT, if_pos (by omega)])
  simp -dsimp only [c0, encT, ↓preB, postB, genB, ↓reduceIte, Nat.reduceEqDiff, Int.reduceToNat, Int.reduceLE, Int.reduceLT, Nat.reduceAdd, Nat.reduceLeDiff, intBin, strBin, unD, extractD, lit1, lit2, lit3, keptD, boxR, D.one, D.pub1, D.cells, splice, cutOwn]
  refine pwp_loopG (fun k env s => k ≤ t.length ∧ firstE (t.drop k) = firstE t ∧ s = σ ∧ env 3 = .int .i64 (k:Nat) ∧ env 0 = encT t) (fun k => t.length - k) 0 ?_ ?_
  · simp [upd_apply, envOf_apply, encT]
  · rintro k env s ⟨hk, hp, rfl, h3, h0⟩
    rcases Nat.lt_or_ge k t.length with hlt | hge
    · have hd := rowsD_at hlt
      have hpos : 0 < (rowsD t).length := by rw [rowsD_len]; omega
      rw [List.drop_eq_getElem_cons hlt, firstE] at hp
      simp -dsimp only [h3, h0, encT, hlt, hd, hpos, hbig, ↓preB, postB, genB, ↓reduceIte, Nat.reduceEqDiff, Int.reduceToNat, Int.reduceLE, Int.reduceLT, Nat.reduceAdd, Nat.reduceLeDiff, intBin, strBin, unD, extractD, lit1, lit2, lit3, keptD, boxR, D.one, D.pub1, D.cells, splice, cutOwn]
      refine draw_t 10 (by decide) ?_
      simp -dsimp only [h3, h0, encT, encSS, hlt, hd, hpos, hbig, ↓preB, postB, genB, ↓reduceIte, Nat.reduceEqDiff, Int.reduceToNat, Int.reduceLE, Int.reduceLT, Nat.reduceAdd, Nat.reduceLeDiff, intBin, strBin, unD, extractD, lit1, lit2, lit3, keptD, boxR, D.one, D.pub1, D.cells, splice, cutOwn]
      refine Fn.useP (Words_c [t[k].From, t[k].To]) rfl ?_
      rw [words2]
      cases c1 : (rowE t[k] != 0)
      · simp -dsimp only [h3, h0, encT, encSS, hlt, hd, hpos, hbig, c1, ↓preB, postB, genB, ↓reduceIte, Nat.reduceEqDiff, Int.reduceToNat, Int.reduceLE, Int.reduceLT, Nat.reduceAdd, Nat.reduceLeDiff, intBin, strBin, unD, extractD, lit1, lit2, lit3, keptD, boxR, D.one, D.pub1, D.cells, splice, cutOwn]
        rw [c1] at hp
        exact ⟨k + 1, ⟨by omega, by simpa using hp, wrap64_succ (by omega)⟩, by omega⟩
      · simp -dsimp only [h3, h0, encT, encSS, hlt, hd, hpos, hbig, c1, ↓preB, postB, genB, ↓reduceIte, Nat.reduceEqDiff, Int.reduceToNat, Int.reduceLE, Int.reduceLT, Nat.reduceAdd, Nat.reduceLeDiff, intBin, strBin, unD, extractD, lit1, lit2, lit3, keptD, boxR, D.one, D.pub1, D.cells, splice, cutOwn]
        rw [c1] at hp
        simp only [if_true] at hp
        exact Ret.is (by rw [badT, if_neg (by omega), ← hp, c1]; rfl)
    · simp -dsimp only [h3, h0, encT, Nat.not_lt.2 hge, hbig, ↓preB, postB, genB, ↓reduceIte, Nat.reduceEqDiff, Int.reduceToNat, Int.reduceLE, Int.reduceLT, Nat.reduceAdd, Nat.reduceLeDiff, intBin, strBin, unD, extractD, lit1, lit2, lit3, keptD, boxR, D.one, D.pub1, D.cells, splice, cutOwn]
      have hfe : firstE t = 0 := by rw [← hp, List.drop_of_length_le hge]; rfl
      refine pwp_loopG (fun k env s' => k ≤ t.length ∧ ordBad (prevF t k) (t.drop k) = ordBad none t ∧ s' = s ∧ env 5 = .int .i64 (k:Nat) ∧ env 0 = encT t) (fun k => t.length - k) 0 ?_ ?_
      · simp [upd_apply, envOf_apply, encT, h0, prevF]
      · rintro k env s ⟨hk, hp, rfl, h5, h0⟩
        rcases Nat.lt_or_ge k t.length with hlt | hge
        · have hd := rowsD_at hlt
          have hpos : 0 < (rowsD t).length := by rw [rowsD_len]; omega
          rw [List.drop_eq_getElem_cons hlt, ordBad, ← prevF_next hlt] at hp
          simp -dsimp only [h5, h0, encT, hlt, hd, hpos, hbig, ↓preB, postB, genB, ↓reduceIte, Nat.reduceEqDiff, Int.reduceToNat, Int.reduceLE, Int.reduceLT, Nat.reduceAdd, Nat.reduceLeDiff, intBin, strBin, unD, extractD, lit1, lit2, lit3, keptD, boxR, D.one, D.pub1, D.cells, splice, cutOwn]
          refine draw_s ?_
          have hdone : badO (prevF t k) t[k] = true → badT t = 1 := fun hb => by
            rw [hb, Bool.true_or] at hp
            rw [badT, if_neg (by omega), hfe, ← hp]; rfl
          have hgo : badO (prevF t k) t[k] = false → ordBad (prevF t (k + 1)) (t.drop (k + 1)) = ordBad none t := fun hb => by
            rw [hb, Bool.false_or] at hp; exact hp
          have c1n : ((t[k].From.length : Int) == 0) = (t[k].From.length == 0) := by
            rw [Bool.eq_iff_iff]; simp
          cases c1 : (t[k].From.length == 0)
          · by_cases ck : k = 0
            · have ckn : ¬ (0 : Int) < k := by omega
              simp -dsimp only [h5, h0, encT, encSS, hlt, hd, hpos, hbig, c1n, c1, ckn, ↓preB, postB, genB, ↓reduceIte, Nat.reduceEqDiff, Int.reduceToNat, Int.reduceLE, Int.reduceLT, Nat.reduceAdd, Nat.reduceLeDiff, intBin, strBin, unD, extractD, lit1, lit2, lit3, keptD, boxR, D.one, D.pub1, D.cells, splice, cutOwn]
              have hb : badO (prevF t k) t[k] = false := by simp [badO, prevF, c1, if_pos ck]
              exact ⟨k + 1, ⟨by omega, hgo hb, wrap64_succ (by omega)⟩, by omega⟩
            · have ckp : (0 : Int) < k := by omega
              have hw : IntKind.i64.wrap ((k : Int) - 1) = ((k - 1 : Nat) : Int) := wrap64_pred (by omega) (by omega)
              have hlt' : k - 1 < t.length := by omega
              have hd' := rowsD_at hlt'
              simp -dsimp only [h5, h0, encT, encSS, hlt, hlt', hd, hd', hpos, hbig, c1n, c1, ckp, hw, ↓preB, postB, genB, ↓reduceIte, Nat.reduceEqDiff, Int.reduceToNat, Int.reduceLE, Int.reduceLT, Nat.reduceAdd, Nat.reduceLeDiff, intBin, strBin, unD, extractD, lit1, lit2, lit3, keptD, boxR, D.one, D.pub1, D.cells, splice, cutOwn]
              refine Fn.useS (Order_c _ _) ?_
              have hb := badO_prev hlt ck
              rw [c1, Bool.false_or] at hb
              by_cases c2 : 0 ≤ ordW (t[k-1]'hlt').From t[k].From
              · simp -dsimp only [h5, h0, encT, encSS, hlt, hlt', hd, hd', hpos, hbig, c1n, c1, ckp, hw, c2, ↓preB, postB, genB, ↓reduceIte, Nat.reduceEqDiff, Int.reduceToNat, Int.reduceLE, Int.reduceLT, Nat.reduceAdd, Nat.reduceLeDiff, intBin, strBin, unD, extractD, lit1, lit2, lit3, keptD, boxR, D.one, D.pub1, D.cells, splice, cutOwn]
                exact Ret.is (by rw [hdone (by rw [hb]; simpa using c2)])
              · simp -dsimp only [h5, h0, encT, encSS, hlt, hlt', hd, hd', hpos, hbig, c1n, c1, ckp, hw, c2, ↓preB, postB, genB, ↓reduceIte, Nat.reduceEqDiff, Int.reduceToNat, Int.reduceLE, Int.reduceLT, Nat.reduceAdd, Nat.reduceLeDiff, intBin, strBin, unD, extractD, lit1, lit2, lit3, keptD, boxR, D.one, D.pub1, D.cells, splice, cutOwn]
                exact ⟨k + 1, ⟨by omega, hgo (by rw [hb]; simpa using c2), wrap64_succ (by omega)⟩, by omega⟩
          · simp -dsimp only [h5, h0, encT, encSS, hlt, hd, hpos, hbig, c1n, c1, ↓preB, postB, genB, ↓reduceIte, Nat.reduceEqDiff, Int.reduceToNat, Int.reduceLE, Int.reduceLT, Nat.reduceAdd, Nat.reduceLeDiff, intBin, strBin, unD, extractD, lit1, lit2, lit3, keptD, boxR, D.one, D.pub1, D.cells, splice, cutOwn]
            exact Ret.is (by rw [hdone (by simp only [badO, c1, Bool.true_or])])
        · simp -dsimp only [h5, h0, encT, Nat.not_lt.2 hge, hbig, ↓preB, postB, genB, ↓reduceIte, Nat.reduceEqDiff, Int.reduceToNat, Int.reduceLE, Int.reduceLT, Nat.reduceAdd, Nat.reduceLeDiff, intBin, strBin, unD, extractD, lit1, lit2, lit3, keptD, boxR, D.one, D.pub1, D.cells, splice, cutOwn]
          refine Ret.is ?_
          rw [badT, if_neg (by omega), hfe, ← hp, List.drop_of_length_le hge]; rfl
end Go.Proofs.YtldlcejlfaogbaaGreatDoor.Vs

/- Which tables there are, by the program. -/
namespace Go.Proofs.YtldlcejlfaogbaaGreatDoor.Vs
set_option linter.unusedVariables false
set_option linter.unusedSimpArgs false
set_option maxRecDepth 20000
theorem validate_c (t : List Sh) : Fn Zs 35 [encT t] (.int .i64 (badT t)) := by
  refine fn_of (Z := Zs) ok35 fun σ hcl hbl => ?_
  simp -dsimp only [L35, encT, ↓preB, postB, genB, ↓reduceIte, Nat.reduceEqDiff, Int.reduceToNat, Int.reduceLE, Int.reduceLT, Nat.reduceAdd, Nat.reduceLeDiff, intBin, strBin, unD, extractD, lit1, lit2, lit3, keptD, boxR, D.one, D.pub1, D.cells, splice, cutOwn]
  intro hbig
  by_cases c0 : (24 : Int) < t.length
  · simp -dsimp only [c0, ↓preB, postB, genB, ↓reduceIte, Nat.reduceEqDiff, Int.reduceToNat, Int.reduceLE, Int.reduceLT, Nat.reduceAdd, Nat.reduceLeDiff, intBin, strBin, unD, extractD, lit1, lit2, lit3, keptD, boxR, D.one, D.pub1, D.cells, splice, cutOwn]
    exact Ret.is (by rw [badT, if_pos (by omega)])
  simp -dsimp only [c0, encT, hbig, ↓preB, postB, genB, ↓reduceIte, Nat.reduceEqDiff, Int.reduceToNat, Int.reduceLE, Int.reduceLT, Nat.reduceAdd, Nat.reduceLeDiff, intBin, strBin, unD, extractD, lit1, lit2, lit3, keptD, boxR, D.one, D.pub1, D.cells, splice, cutOwn]
  refine pwp_loopG (fun k env s => k ≤ t.length ∧ firstE (t.drop k) = firstE t ∧ HLe σ s ∧ env 15 = .int .i64 (k:Nat) ∧ env 14 = .int .i64 t.length ∧ env 13 = encT t ∧ env 0 = encT t) (fun k => t.length - k) 0 ?_ ?_
  · simp [upd_apply, envOf_apply, encT, HLe.refl]
  · rintro k env s ⟨hk, hp, hH, h15, h14, h13, h0⟩
    rcases Nat.lt_or_ge k t.length with hlt | hge
    · have hd := rowsD_at hlt
      have hpos : 0 < (rowsD t).length := by rw [rowsD_len]; omega
      rw [List.drop_eq_getElem_cons hlt, firstE] at hp
      simp -dsimp only [h15, h14, h13, h0, encT, encSS, hlt, hd, hpos, hbig, ↓preB, postB, genB, ↓reduceIte, Nat.reduceEqDiff, Int.reduceToNat, Int.reduceLE, Int.reduceLT, Nat.reduceAdd, Nat.reduceLeDiff, intBin, strBin, unD, extractD, lit1, lit2, lit3, keptD, boxR, D.one, D.pub1, D.cells, splice, cutOwn]
      intro hb2
      have hH1 : ∀ o, HLe σ (s.new o) := fun o => hH.new' o hcl
      obtain ⟨l2, hl2⟩ : ∃ l : List Wd, l = [t[k].From, t[k].To] := ⟨_, rfl⟩
      have hlen : l2.length = 2 := by rw [hl2]; rfl
      have hmap : l2.map encSS = [encSS t[k].From, encSS t[k].To] := by rw [hl2]; rfl
      have hrow : ((l2.map badW).find? (fun e => e != 0)).getD 0 = rowE t[k] := by rw [hl2, words2]
      refine pwp_loopG (fun j env' s' => j ≤ 2 ∧ (((l2.drop j).map badW).find? (fun e => e != 0)).getD 0 = rowE t[k] ∧ HLe σ s' ∧ env' 25 = .int .i64 (j:Nat) ∧ env' 24 = .int .i64 2 ∧ env' 23 = .sl .full 2 (l2.map encSS) ∧ env' 15 = .int .i64 (k:Nat) ∧ env' 14 = .int .i64 t.length ∧ env' 13 = encT t ∧ env' 0 = encT t) (fun j => 2 - j) 0 ?_ ?_
      · simp only [upd_apply, Nat.reduceEqDiff, if_true, if_false, h15, h14, h13, h0, hmap]
        exact ⟨by omega, by simpa using hrow, hH1 _, rfl, rfl, rfl, trivial, trivial, trivial, trivial⟩
      · rintro j env' s' ⟨hj, hq, hH', h25, h24, h23, h15, h14, h13, h0⟩
        rcases Nat.lt_or_ge j 2 with hj2 | hj2
        · have hjl : j < l2.length := by omega
          have hx : l2[j]? = some l2[j] := List.getElem?_eq_getElem hjl
          have hj2' : (j : Int) < 2 := by omega
          rw [List.drop_eq_getElem_cons hjl, List.map_cons, List.find?_cons] at hq
          have hlp : 0 < l2.length := by omega
          simp -dsimp only [h25, h24, h23, h15, h14, h13, h0, hj2', hx, hlp, ↓preB, postB, genB, ↓reduceIte, Nat.reduceEqDiff, Int.reduceToNat, Int.reduceLE, Int.reduceLT, Nat.reduceAdd, Nat.reduceLeDiff, intBin, strBin, unD, extractD, lit1, lit2, lit3, keptD, boxR, D.one, D.pub1, D.cells, splice, cutOwn]
          refine ⟨hj2, Fn.use (symsValidateWord_c _) ?_⟩
          cases c1 : (badW l2[j] != 0)
          · simp -dsimp only [h25, h24, h23, h15, h14, h13, h0, hj2', hx, hlp, c1, ↓preB, postB, genB, ↓reduceIte, Nat.reduceEqDiff, Int.reduceToNat, Int.reduceLE, Int.reduceLT, Nat.reduceAdd, Nat.reduceLeDiff, intBin, strBin, unD, extractD, lit1, lit2, lit3, keptD, boxR, D.one, D.pub1, D.cells, splice, cutOwn]
            rw [c1] at hq
            exact ⟨j + 1, ⟨by omega, hq, hH', wrap64_succ (by simp only [big]; omega)⟩, by omega⟩
          · simp -dsimp only [h25, h24, h23, h15, h14, h13, h0, hj2', hx, hlp, c1, ↓preB, postB, genB, ↓reduceIte, Nat.reduceEqDiff, Int.reduceToNat, Int.reduceLE, Int.reduceLT, Nat.reduceAdd, Nat.reduceLeDiff, intBin, strBin, unD, extractD, lit1, lit2, lit3, keptD, boxR, D.one, D.pub1, D.cells, splice, cutOwn]
            rw [c1] at hq
            simp only [Option.getD_some] at hq
            refine Ret.isH hH' hcl ?_ (.int _ _)
            have e1 : (rowE t[k] != 0) = true := by rw [← hq]; exact c1
            rw [e1] at hp
            simp only [if_true] at hp
            rw [badT, if_neg (by omega), ← hp, e1, hq]; rfl
        · have hj2' : ¬ (j : Int) < 2 := by omega
          simp -dsimp only [h25, h24, h23, h15, h14, h13, h0, hj2', ↓preB, postB, genB, ↓reduceIte, Nat.reduceEqDiff, Int.reduceToNat, Int.reduceLE, Int.reduceLT, Nat.reduceAdd, Nat.reduceLeDiff, intBin, strBin, unD, extractD, lit1, lit2, lit3, keptD, boxR, D.one, D.pub1, D.cells, splice, cutOwn]
          have e0 : rowE t[k] = 0 := by
            rw [← hq, List.drop_of_length_le (by omega)]; rfl
          rw [e0] at hp
          exact ⟨k + 1, ⟨by omega, by simpa using hp, hH', wrap64_succ (by omega)⟩, by omega⟩
    · simp -dsimp only [h15, h14, h13, h0, encT, Nat.not_lt.2 hge, hbig, ↓preB, postB, genB, ↓reduceIte, Nat.reduceEqDiff, Int.reduceToNat, Int.reduceLE, Int.reduceLT, Nat.reduceAdd, Nat.reduceLeDiff, intBin, strBin, unD, extractD, lit1, lit2, lit3, keptD, boxR, D.one, D.pub1, D.cells, splice, cutOwn]
      have hfe : firstE t = 0 := by rw [← hp, List.drop_of_length_le hge]; rfl
      refine pwp_loopG (fun k env s' => k ≤ t.length ∧ ordBad (prevF t k) (t.drop k) = ordBad none t ∧ HLe σ s' ∧ env 38 = .int .i64 (k:Nat) ∧ env 37 = .int .i64 t.length ∧ env 36 = encT t ∧ env 0 = encT t) (fun k => t.length - k) 0 ?_ ?_
      · simp only [upd_apply, Nat.reduceEqDiff, if_true, if_false, h0]
        exact ⟨by omega, by simp [prevF], hH, rfl, trivial, rfl, trivial⟩
      · rintro k env s ⟨hk, hp, hH, h38, h37, h36, h0⟩
        rcases Nat.lt_or_ge k t.length with hlt | hge
        · have hd := rowsD_at hlt
          have hpos : 0 < (rowsD t).length := by rw [rowsD_len]; omega
          rw [List.drop_eq_getElem_cons hlt, ordBad, ← prevF_next hlt] at hp
          simp -dsimp only [h38, h37, h36, h0, encT, hlt, hd, hpos, hbig, ↓preB, postB, genB, ↓reduceIte, Nat.reduceEqDiff, Int.reduceToNat, Int.reduceLE, Int.reduceLT, Nat.reduceAdd, Nat.reduceLeDiff, intBin, strBin, unD, extractD, lit1, lit2, lit3, keptD, boxR, D.one, D.pub1, D.cells, splice, cutOwn]
          have hH1 : ∀ o, HLe σ (s.new o) := fun o => hH.new' o hcl
          refine draw_s ?_
          have hdone : badO (prevF t k) t[k] = true → badT t = 1 := fun hb => by
            rw [hb, Bool.true_or] at hp
            rw [badT, if_neg (by omega), hfe, ← hp]; rfl
          have hgo : badO (prevF t k) t[k] = false → ordBad (prevF t (k + 1)) (t.drop (k + 1)) = ordBad none t := fun hb => by
            rw [hb, Bool.false_or] at hp; exact hp
          have c1n : ((t[k].From.length : Int) == 0) = (t[k].From.length == 0) := by
            rw [Bool.eq_iff_iff]; simp
          cases c1 : (t[k].From.length == 0)
          · by_cases ck : k = 0
            · have ckn : ¬ (0 : Int) < k := by omega
              simp -dsimp only [h38, h37, h36, h0, encT, encSS, hlt, hd, hpos, hbig, c1n, c1, ckn, ↓preB, postB, genB, ↓reduceIte, Nat.reduceEqDiff, Int.reduceToNat, Int.reduceLE, Int.reduceLT, Nat.reduceAdd, Nat.reduceLeDiff, intBin, strBin, unD, extractD, lit1, lit2, lit3, keptD, boxR, D.one, D.pub1, D.cells, splice, cutOwn]
              have hb : badO (prevF t k) t[k] = false := by simp [badO, prevF, c1, if_pos ck]
              exact ⟨k + 1, ⟨by omega, hgo hb, hH1 _, wrap64_succ (by omega)⟩, by omega⟩
            · have ckp : (0 : Int) < k := by omega
              have hw : IntKind.i64.wrap ((k : Int) - 1) = ((k - 1 : Nat) : Int) := wrap64_pred (by omega) (by omega)
              have hlt' : k - 1 < t.length := by omega
              have hd' := rowsD_at hlt'
              simp -dsimp only [h38, h37, h36, h0, encT, encSS, hlt, hlt', hd, hd', hpos, hbig, c1n, c1, ckp, hw, ↓preB, postB, genB, ↓reduceIte, Nat.reduceEqDiff, Int.reduceToNat, Int.reduceLE, Int.reduceLT, Nat.reduceAdd, Nat.reduceLeDiff, intBin, strBin, unD, extractD, lit1, lit2, lit3, keptD, boxR, D.one, D.pub1, D.cells, splice, cutOwn]
              refine Fn.useS (Compare_c _ _) ?_
              have hb := badO_prev hlt ck
              rw [c1, Bool.false_or] at hb
              by_cases c2 : 0 ≤ ordW (t[k-1]'hlt').From t[k].From
              · simp -dsimp only [h38, h37, h36, h0, encT, encSS, hlt, hlt', hd, hd', hpos, hbig, c1n, c1, ckp, hw, c2, ↓preB, postB, genB, ↓reduceIte, Nat.reduceEqDiff, Int.reduceToNat, Int.reduceLE, Int.reduceLT, Nat.reduceAdd, Nat.reduceLeDiff, intBin, strBin, unD, extractD, lit1, lit2, lit3, keptD, boxR, D.one, D.pub1, D.cells, splice, cutOwn]
                exact Ret.isH (hH1 _) hcl (by rw [hdone (by rw [hb]; simpa using c2)]) (.int _ _)
              · simp -dsimp only [h38, h37, h36, h0, encT, encSS, hlt, hlt', hd, hd', hpos, hbig, c1n, c1, ckp, hw, c2, ↓preB, postB, genB, ↓reduceIte, Nat.reduceEqDiff, Int.reduceToNat, Int.reduceLE, Int.reduceLT, Nat.reduceAdd, Nat.reduceLeDiff, intBin, strBin, unD, extractD, lit1, lit2, lit3, keptD, boxR, D.one, D.pub1, D.cells, splice, cutOwn]
                exact ⟨k + 1, ⟨by omega, hgo (by rw [hb]; simpa using c2), hH1 _, wrap64_succ (by omega)⟩, by omega⟩
          · simp -dsimp only [h38, h37, h36, h0, encT, encSS, hlt, hd, hpos, hbig, c1n, c1, ↓preB, postB, genB, ↓reduceIte, Nat.reduceEqDiff, Int.reduceToNat, Int.reduceLE, Int.reduceLT, Nat.reduceAdd, Nat.reduceLeDiff, intBin, strBin, unD, extractD, lit1, lit2, lit3, keptD, boxR, D.one, D.pub1, D.cells, splice, cutOwn]
            exact Ret.isH (hH1 _) hcl (by rw [hdone (by simp only [badO, c1, Bool.true_or])]) (.int _ _)
        · simp -dsimp only [h38, h37, h36, h0, encT, Nat.not_lt.2 hge, hbig, ↓preB, postB, genB, ↓reduceIte, Nat.reduceEqDiff, Int.reduceToNat, Int.reduceLE, Int.reduceLT, Nat.reduceAdd, Nat.reduceLeDiff, intBin, strBin, unD, extractD, lit1, lit2, lit3, keptD, boxR, D.one, D.pub1, D.cells, splice, cutOwn]
          refine Ret.isH hH hcl ?_ (.int _ _)
          rw [badT, if_neg (by omega), hfe, ← hp, List.drop_of_length_le hge]; rfl
end Go.Proofs.YtldlcejlfaogbaaGreatDoor.Vs

/- The shifted word and whether a word is clean, by the program. -/
namespace Go.Proofs.YtldlcejlfaogbaaGreatDoor.Vs
set_option linter.unusedVariables false
set_option linter.unusedSimpArgs false
set_option maxRecDepth 20000
theorem firstE_zero : ∀ {t : List Sh}, firstE t = 0 → ∀ r ∈ t, badW r.From = 0 ∧ badW r.To = 0
  | [], _, r, hr => by cases hr
  | q :: t, h, r, hr => by
    simp only [firstE] at h
    cases c : (rowE q != 0)
    · rw [c] at h
      simp only [Bool.false_eq_true, if_false] at h
      rcases List.mem_cons.1 hr with rfl | hr
      · simp at c
        unfold rowE at c
        cases c2 : (badW r.From != 0)
        · rw [c2] at c; simp at c c2; exact ⟨c2, c⟩
        · rw [c2] at c; simp at c c2; exact absurd c c2
      · exact firstE_zero h r hr
    · rw [c] at h
      simp only [if_true] at h
      rw [h] at c; simp at c
theorem ordBad_false : ∀ {t : List Sh} {p : Option Wd}, ordBad p t = false → ∀ r ∈ t, r.From ≠ []
  | [], _, _, r, hr => by cases hr
  | q :: t, p, h, r, hr => by
    simp only [ordBad, badO, Bool.or_eq_false_iff] at h
    rcases List.mem_cons.1 hr with rfl | hr
    · intro he
      have := h.1.1
      rw [he] at this
      simp at this
    · exact ordBad_false h.2 r hr
theorem badT_zero {t : List Sh} (h : badT t = 0) : t.length ≤ 24 ∧ firstE t = 0 ∧ ordBad none t = false := by
  unfold badT at h
  split at h
  · cases h
  · rename_i hl
    cases c : (firstE t != 0)
    · rw [c] at h
      simp only [Bool.false_eq_true, if_false] at h
      simp at c
      refine ⟨by omega, c, ?_⟩
      cases c2 : ordBad none t
      · rfl
      · rw [c2] at h; cases h
    · rw [c] at h
      simp only [if_true] at h
      rw [h] at c; simp at c
theorem table_ok {t : List Sh} (h : badT t = 0) : (∀ r ∈ t, r.From ≠ []) ∧ ∀ r ∈ t, r.To.length ≤ 60 := by
  obtain ⟨_, h1, h2⟩ := badT_zero h
  exact ⟨ordBad_false h2, fun r hr => badW_len (firstE_zero h1 r hr).2⟩

end Go.Proofs.YtldlcejlfaogbaaGreatDoor.Vs

/- The shifted word by the reference, and how often each row was taken. -/
namespace Go.Proofs.YtldlcejlfaogbaaGreatDoor.Vs
set_option linter.unusedVariables false
set_option linter.unusedSimpArgs false
set_option maxRecDepth 20000
def bump (c : List Int) (b : Option Nat) : List Int := match b with | none => c | some k => c.set k (c.getD k 0 + 1)
def cntF (t : List Sh) : Nat → Wd → List Int → List Int
  | 0, _, c => c
  | n + 1, w, c => if w.length = 0 then c else cntF t n (w.drop (stepN t w)) (bump c (fitW t w))
def cntW (t : List Sh) (w : Wd) : List Int := cntF t w.length w (List.replicate t.length 0)

theorem bump_len (c : List Int) (b : Option Nat) : (bump c b).length = c.length := by
  unfold bump; cases b <;> simp
theorem Shifted_c (t : List Sh) (w : Wd) (h1 : ∀ r ∈ t, r.From ≠ []) (h2 : ∀ r ∈ t, r.To.length ≤ 60) (h3 : w.length ≤ 20000) (h4 : t.length ≤ 1000) : Fn Zs 17 [encT t, encSS w] (.tup [encSS (shiftW t w).1, .bool (shiftW t w).2, encI (cntW t w)]) := by
  refine fn_of (Z := Zs) ok17 fun σ hcl hbl => ?_
  simp -dsimp only [L17, encT, ↓preB, postB, genB, ↓reduceIte, Nat.reduceEqDiff, Int.reduceToNat, Int.reduceLE, Int.reduceLT, Nat.reduceAdd, Nat.reduceLeDiff, intBin, strBin, unD, extractD, lit1, lit2, lit3, keptD, boxR, D.one, D.pub1, D.cells, splice, cutOwn]
  intro hbig
  refine ⟨⟨by omega, by omega, by simp only [big]; omega⟩, ?_⟩
  obtain ⟨q, hq⟩ : ∃ q, q = σ.next := ⟨_, rfl⟩
  have hci : ∀ l : List Int, Closed (σ.new (.cells 3 (l.map (.int .i64)))) := fun l => hcl.new (bel_ints l)
  refine pwp_loopG (fun (x : Wd × Wd × Bool × List Int) env s => (∃ n, x.1.length ≤ n ∧ n ≤ w.length ∧ x.2.1.length + 60 * n ≤ 60 * w.length ∧ x.2.1 ++ (shiftF t n x.1).1 = (shiftW t w).1 ∧ (x.2.2.1 && (shiftF t n x.1).2) = (shiftW t w).2 ∧ cntF t n x.1 x.2.2.2 = cntW t w ∧ x.2.2.2.length = t.length ∧ ∀ c ∈ x.2.2.2, 0 ≤ c ∧ c + n ≤ w.length) ∧
    Acc 9 1 (σ.new (.cells 3 (x.2.2.2.map (.int .i64)))) x.2.1.length (x.2.1.map .str) (env 7) s ∧ env 8 = .bool x.2.2.1 ∧ env 1 = encSS x.1 ∧ env 0 = encT t ∧ env 9 = .row q 0 t.length (some t.length) 1) (fun x => x.1.length) (w, [], true, List.replicate t.length 0) ?_ ?_
  · simp only [upd_apply, envOf_apply, encT, Nat.reduceEqDiff, if_true, if_false, Int.toNat_natCast]
    refine ⟨⟨w.length, Nat.le_refl _, Nat.le_refl _, by simp, rfl, by simp [shiftW], rfl, by simp, fun c hc => ?_⟩, ?_, trivial, rfl, rfl, by rw [hq]⟩
    · obtain ⟨_, rfl⟩ := List.mem_replicate.1 hc
      omega
    · rw [List.map_replicate]; exact Acc.nil (HLe.refl _)
  · rintro ⟨rest, out, cl, cnt⟩ env s ⟨⟨n, hn, hnw, hsz, hp1, hp2, hp3, hcn, hcb⟩, hA, h8, h1', h0, h9⟩
    simp only at hn hsz hp1 hp2 hp3 hcn hcb hA h8 h1'
    obtain ⟨hs, _⟩ := hA.set (x := .cells 3 []) (hci _) (Heap.new_same _ _)
    rw [← hq] at hs
    by_cases hr : rest = []
    · have hneg : ¬ (0 : Int) < rest.length := by rw [hr]; simp
      simp -dsimp only [h8, h1', h0, h9, hneg, encSS, encT, ↓preB, postB, genB, ↓reduceIte, Nat.reduceEqDiff, Int.reduceToNat, Int.reduceLE, Int.reduceLT, Nat.reduceAdd, Nat.reduceLeDiff, intBin, strBin, unD, extractD, lit1, lit2, lit3, keptD, boxR, D.one, D.pub1, D.cells, splice, cutOwn]
      intros
      have e0 : shiftF t n rest = ([], true) := by
        cases n with
        | zero => rfl
        | succ n => simp [shiftF, hr]
      have e1 : cntF t n rest cnt = cnt := by
        cases n with
        | zero => rfl
        | succ n => simp [cntF, hr]
      rw [e0] at hp1 hp2
      rw [e1] at hp3
      simp only [List.append_nil, Bool.and_true] at hp1 hp2
      have hle : HLe σ s := (HLe.self_new _ hcl).trans hA.le
      rw [← hp1, ← hp2, ← hp3]
      refine Ret.less hle hcl (.tup3 hA.told (.refl _) ?_) (.tup3 (.no (bel_strs _)) (.bool _) (.no (bel_ints _)))
      simp only [encI, hcn]
      exact Told.rowI hs (hcl.none (by omega)) (by simp [hcn])
    · have hpos : 0 < rest.length := List.length_pos_iff.2 hr
      have hpos' : (0 : Int) < rest.length := by omega
      obtain ⟨hs1, hs2⟩ := stepN_pos h1 hr
      have hst := stepTo_le (t := t) (w := rest) h2
      obtain ⟨n, rfl⟩ : ∃ m, n = m + 1 := ⟨n - 1, by omega⟩
      have hne : ¬ rest.length = 0 := by omega
      simp only [shiftF, cntF, hne, if_false] at hp1 hp2 hp3
      simp -dsimp only [h8, h1', h0, h9, hpos', encSS, ↓preB, postB, genB, ↓reduceIte, Nat.reduceEqDiff, Int.reduceToNat, Int.reduceLE, Int.reduceLT, Nat.reduceAdd, Nat.reduceLeDiff, intBin, strBin, unD, extractD, lit1, lit2, lit3, keptD, boxR, D.one, D.pub1, D.cells, splice, cutOwn]
      intro hbig2
      refine Fn.use (row_c t rest) ?_
      cases hf : fitW t rest with
      | none =>
        have hx0 : rest[0]? = some (rest[0]'hpos) := List.getElem?_eq_getElem hpos
        have hone : (1 : Int) ≤ rest.length := by omega
        have e1 : stepTo t rest = [rest[0]'hpos] := by
          cases rest with
          | nil => exact absurd rfl hr
          | cons a l => simp [stepTo, hf]
        have e2 : stepN t rest = 1 := by simp [stepN, hf]
        rw [e1, e2] at hp1
        rw [e2, hf] at hp3
        rw [hf] at hp2
        simp only [optI_none, show ¬ ((0 : Int) ≤ -1) by decide, decide_false, Bool.false_and, Bool.and_false] at hp2
        simp -dsimp only [h8, h1', h0, h9, hpos', hpos, hx0, hone, encSS, optI_none, neg1, ↓preB, postB, genB, ↓reduceIte, Nat.reduceEqDiff, Int.reduceToNat, Int.reduceLE, Int.reduceLT, Nat.reduceAdd, Nat.reduceLeDiff, intBin, strBin, unD, extractD, lit1, lit2, lit3, keptD, boxR, D.one, D.pub1, D.cells, splice, cutOwn]
        refine hA.append (hci _) tz23 rfl tz9 rfl rfl rfl (by decide) (by simp) (fedBy_sl tz23 rfl rfl) (by simp only []; omega) (by simp only [big]; omega) fun d' s' hA' => ?_
        simp -dsimp only [h8, h1', h0, h9, hpos', hpos, hx0, hone, encSS, optI_none, neg1, ↓preB, postB, genB, ↓reduceIte, Nat.reduceEqDiff, Int.reduceToNat, Int.reduceLE, Int.reduceLT, Nat.reduceAdd, Nat.reduceLeDiff, intBin, strBin, unD, extractD, lit1, lit2, lit3, keptD, boxR, D.one, D.pub1, D.cells, splice, cutOwn]
        refine ⟨by omega, (rest.drop 1, out ++ [rest[0]'hpos], false, cnt), ⟨⟨n, ?_, by omega, ?_, ?_, by simpa using hp2, hp3, hcn, fun c hc => ?_⟩, by simpa using hA', rfl, ?_⟩, ?_⟩
        · simp only [List.length_drop]; omega
        · simp only [List.length_append, List.length_cons, List.length_nil]; omega
        · rw [← hp1, List.append_assoc]
        · have := hcb c hc; omega
        · exact encSS_drop rest 1 (by omega)
        · simp only [List.length_drop]; omega
      | some j =>
        have hj := fitW_lt hf
        have hjc : j < cnt.length := by omega
        have hcj : cnt[j]? = some (cnt[j]'hjc) := List.getElem?_eq_getElem hjc
        have hcv := hcb _ (List.getElem_mem hjc)
        have hw : IntKind.i64.wrap (cnt[j]'hjc + 1) = cnt[j]'hjc + 1 := wrap64_in (by omega) (by omega)
        have hd := rowsD_at hj
        have hposr : 0 < (rowsD t).length := by rw [rowsD_len]; omega
        have hsp : List.take j (List.map (D.int .i64) cnt) ++ [D.int .i64 (cnt[j]'hjc + 1)] ++ List.drop (j + 1) (List.map (D.int .i64) cnt) = List.map (D.int .i64) (bump cnt (some j)) := by
          rw [splice_one (by simpa using hjc), bump]
          simp [hjc, List.map_set]
        have hA2 := (hA.set (x := .cells 3 ((bump cnt (some j)).map (.int .i64))) (hci _) (Heap.new_same _ _)).2
        rw [Heap.new_set, ← hq] at hA2
        simp -dsimp only [h8, h1', h0, h9, hpos', encT, encSS, optI_some, natneg, hj, hs, hcj, hw, hd, hposr, hsp, ↓preB, postB, genB, ↓reduceIte, Nat.reduceEqDiff, Int.reduceToNat, Int.reduceLE, Int.reduceLT, Nat.reduceAdd, Nat.reduceLeDiff, intBin, strBin, unD, extractD, lit1, lit2, lit3, keptD, boxR, D.one, D.pub1, D.cells, splice, cutOwn]
        have e1 : stepTo t rest = t[j].To := by simp [stepTo, hf, hj]
        have e2 : stepN t rest = t[j].From.length := by simp [stepN, hf, hj]
        rw [e1] at hst
        refine ⟨by omega, hA2.append (hci _) tz23 rfl tz9 rfl rfl rfl (by decide) (by simp) (fedBy_sl tz23 rfl (by simp)) (by simp only []; omega) (by simp only [big]; omega) fun d' s' hA' => ?_⟩
        simp -dsimp only [h8, h1', h0, h9, hpos', encT, encSS, optI_some, natneg, hj, hs, hcj, hw, hd, hposr, hsp, ↓preB, postB, genB, ↓reduceIte, Nat.reduceEqDiff, Int.reduceToNat, Int.reduceLE, Int.reduceLT, Nat.reduceAdd, Nat.reduceLeDiff, intBin, strBin, unD, extractD, lit1, lit2, lit3, keptD, boxR, D.one, D.pub1, D.cells, splice, cutOwn]
        intros
        rw [e2] at hs1 hs2 hp1 hp2 hp3
        rw [e1] at hp1
        rw [hf] at hp2 hp3
        simp only [optI_some, show (0 : Int) ≤ (j : Int) by omega, decide_true, Bool.true_and] at hp2
        refine ⟨⟨by omega, by omega⟩, (rest.drop t[j].From.length, out ++ t[j].To, cl, bump cnt (some j)), ⟨⟨n, ?_, by omega, ?_, ?_, hp2, hp3, by rw [bump_len]; exact hcn, fun c hc => ?_⟩, by simpa using hA', ?_⟩, ?_⟩
        · simp only [List.length_drop]; omega
        · simp only [List.length_append]; omega
        · rw [← hp1, List.append_assoc]
        · simp only [bump] at hc
          rcases List.mem_or_eq_of_mem_set hc with hc | hc
          · have := hcb c hc; omega
          · rw [hc, List.getD_eq_getElem?_getD, hcj]; simp only [Option.getD_some]; omega
        · exact ⟨rfl, encSS_drop rest _ hs2⟩
        · simp only [List.length_drop]; omega

end Go.Proofs.YtldlcejlfaogbaaGreatDoor.Vs
