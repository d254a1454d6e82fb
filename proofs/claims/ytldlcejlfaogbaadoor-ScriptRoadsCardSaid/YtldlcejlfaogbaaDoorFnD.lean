/- The row that fits, and what a step is. -/
import Derived.Test.YtldlcejlfaogbaaDoorFnBx
namespace Go.Proofs.YtldlcejlfaogbaaDoor.Vs
set_option linter.unusedVariables false
set_option linter.unusedSimpArgs false
set_option maxRecDepth 20000

theorem fit_c (t : List Sh) (w : Wd) : Fn Zs 78 [encT t, encSS w] (.int .i64 (optI (fitW t w))) := by
  refine fn_of (Z := Zs) ok78 fun σ hcl hbl => ?_
  simp -dsimp only [L78, encT, ↓preB, postB, genB, ↓reduceIte, Nat.reduceEqDiff, Int.reduceToNat, Int.reduceLE, Int.reduceLT, Nat.reduceAdd, Nat.reduceLeDiff, intBin, strBin, unD, extractD, lit1, lit2, lit3, keptD, boxR, D.one, D.pub1, D.cells, splice, cutOwn]
  intro hbig
  refine pwp_loopG (fun k env s => k ≤ t.length ∧ (∃ b, (∀ j, b = some j → j < k) ∧ env 5 = .int .i64 (optI b) ∧ fitFrom t w (t.length - k) b k = fitW t w) ∧ HLe σ s ∧ env 10 = .int .i64 (k:Nat) ∧ env 9 = .int .i64 t.length ∧ env 8 = encT t ∧ env 0 = encT t ∧ env 1 = encSS w) (fun k => t.length - k) 0 ?_ ?_
  · simp only [upd_apply, envOf_apply, encT, Nat.reduceEqDiff, if_true, if_false]
    exact ⟨Nat.zero_le _, ⟨none, by simp, rfl, rfl⟩, HLe.refl σ, rfl, trivial, trivial, rfl, rfl⟩
  · rintro k env s ⟨hk, ⟨b, hb, h5, hp⟩, hH, h10, h9, h8, h0, h1⟩
    rcases Nat.lt_or_ge k t.length with hlt | hge
    · have hd := rowsD_at hlt
      have hpos : 0 < (rowsD t).length := by rw [rowsD_len]; omega
      rw [show t.length - k = (t.length - (k + 1)) + 1 by omega, fitFrom] at hp
      have hx : t[k]? = some t[k] := List.getElem?_eq_getElem hlt
      simp -dsimp only [h5, h10, h9, h8, h0, h1, encT, hlt, hd, hpos, ↓preB, postB, genB, ↓reduceIte, Nat.reduceEqDiff, Int.reduceToNat, Int.reduceLE, Int.reduceLT, Nat.reduceAdd, Nat.reduceLeDiff, intBin, strBin, unD, extractD, lit1, lit2, lit3, keptD, boxR, D.one, D.pub1, D.cells, splice, cutOwn]
      have hH' : ∀ o, HLe σ (s.new o) := fun o => hH.new' o hcl
      refine draw_s ?_
      simp -dsimp only [h5, h10, h9, h8, h0, h1, encT, hlt, hd, hpos, ↓preB, postB, genB, ↓reduceIte, Nat.reduceEqDiff, Int.reduceToNat, Int.reduceLE, Int.reduceLT, Nat.reduceAdd, Nat.reduceLeDiff, intBin, strBin, unD, extractD, lit1, lit2, lit3, keptD, boxR, D.one, D.pub1, D.cells, splice, cutOwn]
      refine Fn.useS (begins_c w _) ?_
      have hnext : ∀ c : Bool, (begW w t[k].From && longer t b t[k].From.length) = c → bestI t b k w = if c = true then some k else b := fun c hc => by
        simp only [bestI, hx, hc]
      cases c1 : begW w t[k].From
      · simp -dsimp only [h5, h10, h9, h8, h0, h1, encT, hlt, hd, hpos, ↓preB, postB, genB, ↓reduceIte, Nat.reduceEqDiff, Int.reduceToNat, Int.reduceLE, Int.reduceLT, Nat.reduceAdd, Nat.reduceLeDiff, intBin, strBin, unD, extractD, lit1, lit2, lit3, keptD, boxR, D.one, D.pub1, D.cells, splice, cutOwn]
        rw [hnext false (by rw [c1]; rfl)] at hp
        exact ⟨k + 1, ⟨by omega, ⟨b, fun j hj => by have := hb j hj; omega, rfl, hp⟩, hH' _, wrap64_succ (by omega)⟩, by omega⟩
      · cases b with
        | none =>
          simp -dsimp only [h5, h10, h9, h8, h0, h1, encT, hlt, hd, hpos, optI_none, neg1, ↓preB, postB, genB, ↓reduceIte, Nat.reduceEqDiff, Int.reduceToNat, Int.reduceLE, Int.reduceLT, Nat.reduceAdd, Nat.reduceLeDiff, intBin, strBin, unD, extractD, lit1, lit2, lit3, keptD, boxR, D.one, D.pub1, D.cells, splice, cutOwn]
          rw [hnext true (by rw [c1]; rfl)] at hp
          exact ⟨k + 1, ⟨by omega, ⟨some k, fun j hj => by cases hj; omega, rfl, hp⟩, hH' _, wrap64_succ (by omega)⟩, by omega⟩
        | some j =>
          have hj := hb j rfl
          have hjt : j < t.length := by omega
          have hdj := rowsD_at hjt
          have hlj : longer t (some j) t[k].From.length = decide (t[j].From.length < t[k].From.length) := by simp [longer, hjt]
          by_cases c2 : t[j].From.length < t[k].From.length
          · simp -dsimp only [h5, h10, h9, h8, h0, h1, encT, encSS, hlt, hjt, hd, hdj, optI_some, natneg, hpos, c2, ↓preB, postB, genB, ↓reduceIte, Nat.reduceEqDiff, Int.reduceToNat, Int.reduceLE, Int.reduceLT, Nat.reduceAdd, Nat.reduceLeDiff, intBin, strBin, unD, extractD, lit1, lit2, lit3, keptD, boxR, D.one, D.pub1, D.cells, splice, cutOwn]
            rw [hnext true (by rw [c1, hlj]; simp [c2])] at hp
            exact ⟨k + 1, ⟨by omega, ⟨some k, fun j hj => by cases hj; omega, rfl, hp⟩, hH' _, wrap64_succ (by omega)⟩, by omega⟩
          · simp -dsimp only [h5, h10, h9, h8, h0, h1, encT, encSS, hlt, hjt, hd, hdj, optI_some, natneg, hpos, c2, ↓preB, postB, genB, ↓reduceIte, Nat.reduceEqDiff, Int.reduceToNat, Int.reduceLE, Int.reduceLT, Nat.reduceAdd, Nat.reduceLeDiff, intBin, strBin, unD, extractD, lit1, lit2, lit3, keptD, boxR, D.one, D.pub1, D.cells, splice, cutOwn]
            rw [hnext false (by rw [c1, hlj]; simp; omega)] at hp
            exact ⟨k + 1, ⟨by omega, ⟨some j, fun j' hj' => by cases hj'; omega, rfl, hp⟩, hH' _, wrap64_succ (by omega)⟩, by omega⟩
    · simp -dsimp only [h5, h10, h9, h8, h0, h1, encT, Nat.not_lt.2 hge, ↓preB, postB, genB, ↓reduceIte, Nat.reduceEqDiff, Int.reduceToNat, Int.reduceLE, Int.reduceLT, Nat.reduceAdd, Nat.reduceLeDiff, intBin, strBin, unD, extractD, lit1, lit2, lit3, keptD, boxR, D.one, D.pub1, D.cells, splice, cutOwn]
      refine Ret.isH hH hcl ?_ (.int _ _)
      rw [← hp, show t.length - k = 0 by omega]; rfl

theorem fitFrom_lt (t : List Sh) (w : Wd) : ∀ (n : Nat) (b : Option Nat) (k : Nat), (∀ j, b = some j → j < t.length) → ∀ j, fitFrom t w n b k = some j → j < t.length
  | 0, b, k, hb, j, h => hb j h
  | n + 1, b, k, hb, j, h => by
    refine fitFrom_lt t w n _ _ (fun i hi => ?_) j h
    unfold bestI at hi
    split at hi
    · exact hb i hi
    · rename_i r hr
      split at hi
      · cases hi; exact (List.getElem?_eq_some_iff.1 hr).1
      · exact hb i hi
theorem fitW_lt {t : List Sh} {w : Wd} {j : Nat} (h : fitW t w = some j) : j < t.length := fitFrom_lt t w _ _ _ (by simp) j h
theorem fitFrom_beg (t : List Sh) (w : Wd) : ∀ (n : Nat) (b : Option Nat) (k : Nat), (∀ j, b = some j → ∃ r, t[j]? = some r ∧ begW w r.From = true) → ∀ j, fitFrom t w n b k = some j → ∃ r, t[j]? = some r ∧ begW w r.From = true
  | 0, b, k, hb, j, h => hb j h
  | n + 1, b, k, hb, j, h => by
    refine fitFrom_beg t w n _ _ (fun i hi => ?_) j h
    unfold bestI at hi
    split at hi
    · exact hb i hi
    · rename_i r hr
      split at hi
      · rename_i hc
        cases hi
        rw [Bool.and_eq_true] at hc
        exact ⟨r, hr, hc.1⟩
      · exact hb i hi
theorem fitW_beg {t : List Sh} {w : Wd} {j : Nat} (h : fitW t w = some j) : ∃ r, t[j]? = some r ∧ begW w r.From = true := fitFrom_beg t w _ _ _ (by simp) j h
def stepTo (t : List Sh) (w : Wd) : Wd := match fitW t w with | none => w.take 1 | some k => ((t[k]?).map (·.To)).getD []
def stepN (t : List Sh) (w : Wd) : Nat := match fitW t w with | none => 1 | some k => ((t[k]?).map (·.From.length)).getD 0

theorem step_c (t : List Sh) (w : Wd) (hw : w ≠ []) : Fn Zs 52 [encT t, encSS w] (.tup [encSS (stepTo t w), .int .i64 (stepN t w), .int .i64 (optI (fitW t w))]) := by
  have hw1 : 1 ≤ w.length := by cases w with | nil => exact absurd rfl hw | cons a l => simp
  refine fn_of (Z := Zs) ok52 fun σ hcl hbl => ?_
  simp -dsimp only [L52, ↓preB, postB, genB, ↓reduceIte, Nat.reduceEqDiff, Int.reduceToNat, Int.reduceLE, Int.reduceLT, Nat.reduceAdd, Nat.reduceLeDiff, intBin, strBin, unD, extractD, lit1, lit2, lit3, keptD, boxR, D.one, D.pub1, D.cells, splice, cutOwn]
  refine Fn.use (fit_c t w) ?_
  cases hf : fitW t w with
  | none =>
    simp -dsimp only [optI_none, neg1, encSS, ↓preB, postB, genB, ↓reduceIte, Nat.reduceEqDiff, Int.reduceToNat, Int.reduceLE, Int.reduceLT, Nat.reduceAdd, Nat.reduceLeDiff, intBin, strBin, unD, extractD, lit1, lit2, lit3, keptD, boxR, D.one, D.pub1, D.cells, splice, cutOwn]
    refine ⟨⟨by omega, by omega⟩, Ret.is ?_⟩
    have e1 : stepTo t w = w.take 1 := by simp [stepTo, hf]
    have e2 : stepN t w = 1 := by simp [stepN, hf]
    rw [e1, e2]
    simp [Nat.min_eq_left hw1]
  | some j =>
    have hj := fitW_lt hf
    have hd := rowsD_at hj
    have hpos : 0 < (rowsD t).length := by rw [rowsD_len]; omega
    simp -dsimp only [optI_some, natneg, encT, hj, hd, hpos, ↓preB, postB, genB, ↓reduceIte, Nat.reduceEqDiff, Int.reduceToNat, Int.reduceLE, Int.reduceLT, Nat.reduceAdd, Nat.reduceLeDiff, intBin, strBin, unD, extractD, lit1, lit2, lit3, keptD, boxR, D.one, D.pub1, D.cells, splice, cutOwn]
    refine draw_s ?_
    simp -dsimp only [optI_some, natneg, encT, encSS, hj, hd, hpos, ↓preB, postB, genB, ↓reduceIte, Nat.reduceEqDiff, Int.reduceToNat, Int.reduceLE, Int.reduceLT, Nat.reduceAdd, Nat.reduceLeDiff, intBin, strBin, unD, extractD, lit1, lit2, lit3, keptD, boxR, D.one, D.pub1, D.cells, splice, cutOwn]
    exact Ret.is (by simp [stepTo, stepN, hf, hj])

/-- A shifted word, and whether it was clean; so many steps at most. -/
def shiftF (t : List Sh) : Nat → Wd → Wd × Bool
  | 0, _ => ([], true)
  | n + 1, w => if w.length = 0 then ([], true) else
    let r := shiftF t n (w.drop (stepN t w))
    (stepTo t w ++ r.1, decide (0 ≤ optI (fitW t w)) && r.2)
def shiftW (t : List Sh) (w : Wd) : Wd × Bool := shiftF t w.length w

theorem stepN_pos {t : List Sh} {w : Wd} (ht : ∀ r ∈ t, r.From ≠ []) (hw : w ≠ []) : 1 ≤ stepN t w ∧ stepN t w ≤ w.length := by
  have hw1 : 1 ≤ w.length := by cases w with | nil => exact absurd rfl hw | cons a l => simp
  unfold stepN
  cases hf : fitW t w with
  | none => exact ⟨Nat.le_refl _, hw1⟩
  | some j =>
    obtain ⟨r, hr, hb⟩ := fitW_beg hf
    have h1 := begW_le hb
    have h2 := ht r (List.mem_of_getElem? hr)
    simp only [hr, Option.map_some, Option.getD_some]
    exact ⟨by cases hq : r.From with | nil => exact absurd hq h2 | cons a l => simp, h1⟩
theorem stepTo_le {t : List Sh} {w : Wd} (ht : ∀ r ∈ t, r.To.length ≤ 60) : (stepTo t w).length ≤ 60 := by
  unfold stepTo
  cases hf : fitW t w with
  | none => simp; omega
  | some j =>
    obtain ⟨r, hr, hb⟩ := fitW_beg hf
    simp only [hr, Option.map_some, Option.getD_some]
    exact ht r (List.mem_of_getElem? hr)

theorem shifted_c (t : List Sh) (w : Wd) (h1 : ∀ r ∈ t, r.From ≠ []) (h2 : ∀ r ∈ t, r.To.length ≤ 60) (h3 : w.length ≤ 1000) : Fn Zs 22 [encT t, encSS w] (.tup [encSS (shiftW t w).1, .bool (shiftW t w).2]) := by
  refine fn_of (Z := Zs) ok22 fun σ hcl hbl => ?_
  simp -dsimp only [L22, encT, ↓preB, postB, genB, ↓reduceIte, Nat.reduceEqDiff, Int.reduceToNat, Int.reduceLE, Int.reduceLT, Nat.reduceAdd, Nat.reduceLeDiff, intBin, strBin, unD, extractD, lit1, lit2, lit3, keptD, boxR, D.one, D.pub1, D.cells, splice, cutOwn]
  refine pwp_loopG (fun (x : Wd × Wd × Bool) env s => (∃ n, x.1.length ≤ n ∧ x.2.1.length + 60 * n ≤ 60 * w.length ∧ x.2.1 ++ (shiftF t n x.1).1 = (shiftW t w).1 ∧ (x.2.2 && (shiftF t n x.1).2) = (shiftW t w).2) ∧ Acc 9 1 σ x.2.1.length (x.2.1.map .str) (env 6) s ∧ env 7 = .bool x.2.2 ∧ env 1 = encSS x.1 ∧ env 0 = encT t) (fun x => x.1.length) (w, [], true) ?_ ?_
  · simp only [upd_apply, envOf_apply, encT, Nat.reduceEqDiff, if_true, if_false]
    exact ⟨⟨w.length, Nat.le_refl _, by simp, rfl, by simp [shiftW]⟩, Acc.nil (HLe.refl _), trivial, rfl, rfl⟩
  · rintro ⟨rest, out, cl⟩ env s ⟨⟨n, hn, hsz, hp1, hp2⟩, hA, h7, h1', h0⟩
    simp only at hn hsz hp1 hp2 hA h7 h1'
    by_cases hr : rest = []
    · have hneg : ¬ (0 : Int) < rest.length := by rw [hr]; simp
      simp -dsimp only [h7, h1', h0, hneg, encSS, encT, ↓preB, postB, genB, ↓reduceIte, Nat.reduceEqDiff, Int.reduceToNat, Int.reduceLE, Int.reduceLT, Nat.reduceAdd, Nat.reduceLeDiff, intBin, strBin, unD, extractD, lit1, lit2, lit3, keptD, boxR, D.one, D.pub1, D.cells, splice, cutOwn]
      intros
      have e0 : shiftF t n rest = ([], true) := by
        cases n with
        | zero => rfl
        | succ n => simp [shiftF, hr]
      rw [e0] at hp1 hp2
      simp only [List.append_nil, Bool.and_true] at hp1 hp2
      rw [← hp1, ← hp2]
      exact Ret.less hA.le hcl (.tup2 hA.told (.refl _)) (.tup2 (.no (bel_strs _)) (.bool _))
    · have hpos : 0 < rest.length := List.length_pos_iff.2 hr
      have hpos' : (0 : Int) < rest.length := by omega
      obtain ⟨hs1, hs2⟩ := stepN_pos h1 hr
      have hst := stepTo_le (t := t) (w := rest) h2
      obtain ⟨n, rfl⟩ : ∃ m, n = m + 1 := ⟨n - 1, by omega⟩
      have hne : ¬ rest.length = 0 := by omega
      simp only [shiftF, hne, if_false] at hp1 hp2
      simp -dsimp only [h7, h1', h0, hpos', encSS, ↓preB, postB, genB, ↓reduceIte, Nat.reduceEqDiff, Int.reduceToNat, Int.reduceLE, Int.reduceLT, Nat.reduceAdd, Nat.reduceLeDiff, intBin, strBin, unD, extractD, lit1, lit2, lit3, keptD, boxR, D.one, D.pub1, D.cells, splice, cutOwn]
      intro hbig
      refine Fn.use (step_c t rest hr) ?_
      simp -dsimp only [h7, h1', h0, hpos', encSS, ↓preB, postB, genB, ↓reduceIte, Nat.reduceEqDiff, Int.reduceToNat, Int.reduceLE, Int.reduceLT, Nat.reduceAdd, Nat.reduceLeDiff, intBin, strBin, unD, extractD, lit1, lit2, lit3, keptD, boxR, D.one, D.pub1, D.cells, splice, cutOwn]
      refine hA.append hcl tz29 rfl tz9 rfl rfl rfl (by decide) (by simp) (fedBy_sl tz29 rfl (by simp)) (by simp only []; omega) (by simp only [big]; omega) fun d' s' hA' => ?_
      have hfin : ∃ y : Wd × Wd × Bool, ((∃ m, y.1.length ≤ m ∧ y.2.1.length + 60 * m ≤ 60 * w.length ∧ y.2.1 ++ (shiftF t m y.1).1 = (shiftW t w).1 ∧ (y.2.2 && (shiftF t m y.1).2) = (shiftW t w).2) ∧
          Acc 9 1 σ y.2.1.length (y.2.1.map .str) d' s' ∧ D.bool (cl && decide (0 ≤ optI (fitW t rest))) = .bool y.2.2 ∧ D.sl .no (rest.length - stepN t rest) (((rest.map D.str).drop (stepN t rest)).take (rest.length - stepN t rest)) = encSS y.1 ∧ encT t = encT t) ∧ y.1.length < rest.length := by
        refine ⟨(rest.drop (stepN t rest), out ++ stepTo t rest, cl && decide (0 ≤ optI (fitW t rest))), ⟨⟨n, ?_, ?_, ?_, ?_⟩, ?_, rfl, ?_, rfl⟩, ?_⟩
        · simp only [List.length_drop]; omega
        · simp only [List.length_append]; omega
        · rw [← hp1, List.append_assoc]
        · rw [← hp2, Bool.and_assoc]
        · simpa using hA'
        · exact encSS_drop rest _ hs2
        · simp only [List.length_drop]; omega
      cases cl
      · simp -dsimp only [h7, h1', h0, hpos', encSS, ↓preB, postB, genB, ↓reduceIte, Nat.reduceEqDiff, Int.reduceToNat, Int.reduceLE, Int.reduceLT, Nat.reduceAdd, Nat.reduceLeDiff, intBin, strBin, unD, extractD, lit1, lit2, lit3, keptD, boxR, D.one, D.pub1, D.cells, splice, cutOwn]
        refine ⟨⟨by omega, by omega⟩, ?_⟩
        obtain ⟨y, ⟨hq, hA2, hb2, he, _⟩, hlt⟩ := hfin
        exact ⟨y, ⟨hq, hA2, by simpa using hb2, he⟩, hlt⟩
      · simp -dsimp only [h7, h1', h0, hpos', encSS, ↓preB, postB, genB, ↓reduceIte, Nat.reduceEqDiff, Int.reduceToNat, Int.reduceLE, Int.reduceLT, Nat.reduceAdd, Nat.reduceLeDiff, intBin, strBin, unD, extractD, lit1, lit2, lit3, keptD, boxR, D.one, D.pub1, D.cells, splice, cutOwn]
        refine ⟨⟨by omega, by omega⟩, ?_⟩
        obtain ⟨y, ⟨hq, hA2, hb2, he, _⟩, hlt⟩ := hfin
        exact ⟨y, ⟨hq, hA2, by simpa using hb2, he⟩, hlt⟩
end Go.Proofs.YtldlcejlfaogbaaDoor.Vs
