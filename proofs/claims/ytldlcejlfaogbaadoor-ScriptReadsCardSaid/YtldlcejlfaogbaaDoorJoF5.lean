/- numbers of YtldlcejlfaogbaaDoor -/
/- The reference's small functions on tables and words. -/
import Derived.Test.YtldlcejlfaogbaaDoorJoF4
namespace Go.Proofs.YtldlcejlfaogbaaDoor.Vs
set_option linter.unusedVariables false
set_option linter.unusedSimpArgs false
set_option maxRecDepth 20000

theorem bel_SS {N : Nat} (w : Wd) : Bel N (.sl .no w.length (w.map .str)) := .no (bel_strs _)
theorem bel_LL {N : Nat} (l : List Wd) : Bel N (encLL l) := .no fun d hd => by
  obtain ⟨w, _, rfl⟩ := List.mem_map.1 hd
  exact bel_SS w
theorem isLonger_c (t : List Sh) (w : Wd) : Fn Zs 59 [encT t, encSS w] (.bool (waitsW t w)) := by
  refine fn_of (Z := Zs) ok59 fun σ hcl hbl => ?_
  simp -dsimp only [L59, encT, ↓preB, postB, genB, ↓reduceIte, Nat.reduceEqDiff, Int.reduceToNat, Int.reduceLE, Int.reduceLT, Nat.reduceAdd, Nat.reduceLeDiff, intBin, strBin, unD, extractD, lit1, lit2, lit3, keptD, boxR, D.one, D.pub1, D.cells, splice, cutOwn]
  refine pwp_loopG (fun k env s => k ≤ t.length ∧ waitsW (t.drop k) w = waitsW t w ∧ s = σ ∧ env 5 = .int .i64 (k:Nat) ∧ env 0 = encT t ∧ env 1 = encSS w) (fun k => t.length - k) 0 ?_ ?_
  · simp only [upd_apply, envOf_apply, encT, Nat.reduceEqDiff, if_true, if_false]
    exact ⟨Nat.zero_le _, by rw [List.drop_zero], trivial, rfl, rfl, rfl⟩
  · rintro k env s ⟨hk, hp, rfl, h5, h0, h1⟩
    rcases Nat.lt_or_ge k t.length with hlt | hge
    · have hd := rowsD_at hlt
      have hpos : 0 < (rowsD t).length := by rw [rowsD_len]; omega
      rw [List.drop_eq_getElem_cons hlt, waitsW, List.any_cons] at hp
      simp -dsimp only [h5, h0, h1, encT, encSS, hlt, hd, hpos, ↓preB, postB, genB, ↓reduceIte, Nat.reduceEqDiff, Int.reduceToNat, Int.reduceLE, Int.reduceLT, Nat.reduceAdd, Nat.reduceLeDiff, intBin, strBin, unD, extractD, lit1, lit2, lit3, keptD, boxR, D.one, D.pub1, D.cells, splice, cutOwn]
      intro q1 q2 q3
      have hrow : waitsR w t[k] = (decide (w.length < t[k].From.length) && begW t[k].From w) := rfl
      by_cases hc : w.length < t[k].From.length
      · have e0 : decide (w.length < t[k].From.length) = true := decide_eq_true hc
        rw [e0, Bool.true_and] at hrow
        simp -dsimp only [h5, h0, h1, e0, hc, encT, encSS, hlt, hd, hpos, gate, beq_self_eq_true, if_true, ↓preB, postB, genB, ↓reduceIte, Nat.reduceEqDiff, Int.reduceToNat, Int.reduceLE, Int.reduceLT, Nat.reduceAdd, Nat.reduceLeDiff, intBin, strBin, unD, extractD, lit1, lit2, lit3, keptD, boxR, D.one, D.pub1, D.cells, splice, cutOwn]
        refine Fn.use (refBegins_c t[k].From w) ?_
        cases hbg : begW t[k].From w
        · simp -dsimp only [h5, h0, h1, e0, hc, hbg, encT, encSS, hlt, hd, hpos, gate, beq_self_eq_true, if_true, ↓preB, postB, genB, ↓reduceIte, Nat.reduceEqDiff, Int.reduceToNat, Int.reduceLE, Int.reduceLT, Nat.reduceAdd, Nat.reduceLeDiff, intBin, strBin, unD, extractD, lit1, lit2, lit3, keptD, boxR, D.one, D.pub1, D.cells, splice, cutOwn]
          refine ⟨k + 1, ⟨by omega, ?_, wrap64_succ (by omega)⟩, by omega⟩
          rw [← hp, hrow, hbg, Bool.false_or]; rfl
        · simp -dsimp only [h5, h0, h1, e0, hc, hbg, encT, encSS, hlt, hd, hpos, gate, beq_self_eq_true, if_true, ↓preB, postB, genB, ↓reduceIte, Nat.reduceEqDiff, Int.reduceToNat, Int.reduceLE, Int.reduceLT, Nat.reduceAdd, Nat.reduceLeDiff, intBin, strBin, unD, extractD, lit1, lit2, lit3, keptD, boxR, D.one, D.pub1, D.cells, splice, cutOwn]
          exact Ret.is (by rw [← hp, hrow, hbg, Bool.true_or])
      · have e0 : decide (w.length < t[k].From.length) = false := decide_eq_false hc
        rw [e0, Bool.false_and] at hrow
        simp -dsimp only [h5, h0, h1, e0, hc, encT, encSS, hlt, hd, hpos, gate, show (false == true) = false from rfl, if_false, ↓preB, postB, genB, ↓reduceIte, Nat.reduceEqDiff, Int.reduceToNat, Int.reduceLE, Int.reduceLT, Nat.reduceAdd, Nat.reduceLeDiff, intBin, strBin, unD, extractD, lit1, lit2, lit3, keptD, boxR, D.one, D.pub1, D.cells, splice, cutOwn]
        refine ⟨k + 1, ⟨by omega, ?_, wrap64_succ (by omega)⟩, by omega⟩
        rw [← hp, hrow, Bool.false_or]; rfl
    · rw [List.drop_of_length_le hge] at hp
      simp -dsimp only [h5, h0, h1, encT, Nat.not_lt.2 hge, ↓preB, postB, genB, ↓reduceIte, Nat.reduceEqDiff, Int.reduceToNat, Int.reduceLE, Int.reduceLT, Nat.reduceAdd, Nat.reduceLeDiff, intBin, strBin, unD, extractD, lit1, lit2, lit3, keptD, boxR, D.one, D.pub1, D.cells, splice, cutOwn]
      intros
      exact Ret.is (by rw [← hp]; rfl)
theorem refJoinW_c (a b : Wd) (ha : a.length ≤ 100000) (hb : b.length ≤ 100000) : Fn Zs 30 [encSS a, encSS b] (encSS (a ++ b)) := by
  refine fn_of (Z := Zs) ok30 fun σ hcl hbl => ?_
  simp -dsimp only [L30, bs29_0, encSS, ↓preB, postB, genB, ↓reduceIte, Nat.reduceEqDiff, Int.reduceToNat, Int.reduceLE, Int.reduceLT, Nat.reduceAdd, Nat.reduceLeDiff, intBin, strBin, unD, extractD, lit1, lit2, lit3, keptD, boxR, D.one, D.pub1, D.cells, splice, cutOwn]
  refine (Acc.full (e := 9) (z := 1) (n := 0) (cs := []) (HLe.refl σ)).append (m := a.length) (ys := a.map .str) hcl tz29 rfl tz9 rfl rfl rfl (by decide) (by simp) (fedBy_sl tz29 rfl (by simp)) (by simp only []; omega) (by simp only [big]; omega) fun d' s' hA => ?_
  simp -dsimp only [encSS, ↓preB, postB, genB, ↓reduceIte, Nat.reduceEqDiff, Int.reduceToNat, Int.reduceLE, Int.reduceLT, Nat.reduceAdd, Nat.reduceLeDiff, intBin, strBin, unD, extractD, lit1, lit2, lit3, keptD, boxR, D.one, D.pub1, D.cells, splice, cutOwn]
  refine hA.append (m := b.length) (ys := b.map .str) hcl tz29 rfl tz9 rfl rfl rfl (by decide) (by simp) (fedBy_sl tz29 rfl (by simp)) (by simp only []; omega) (by simp only [big]; omega) fun d2 s2 hA2 => ?_
  simp -dsimp only [↓preB, postB, genB, ↓reduceIte, Nat.reduceEqDiff, Int.reduceToNat, Int.reduceLE, Int.reduceLT, Nat.reduceAdd, Nat.reduceLeDiff, intBin, strBin, unD, extractD, lit1, lit2, lit3, keptD, boxR, D.one, D.pub1, D.cells, splice, cutOwn]
  exact Ret.less hA2.le hcl (by simpa [encSS] using hA2.told) (bel_SS (a ++ b))
theorem tos_c (t : List Sh) (ht : t.length ≤ 100000) : Fn Zs 28 [encT t] (encLL (t.map (·.To))) := by
  refine fn_of (Z := Zs) ok28 fun σ hcl hbl => ?_
  simp -dsimp only [L28, encT, ↓preB, postB, genB, ↓reduceIte, Nat.reduceEqDiff, Int.reduceToNat, Int.reduceLE, Int.reduceLT, Nat.reduceAdd, Nat.reduceLeDiff, intBin, strBin, unD, extractD, lit1, lit2, lit3, keptD, boxR, D.one, D.pub1, D.cells, splice, cutOwn]
  refine pwp_loopG (fun k env s => k ≤ t.length ∧ Acc 29 1 σ k (((t.take k).map (·.To)).map encSS) (env 3) s ∧ env 4 = .int .i64 (k:Nat) ∧ env 0 = encT t) (fun k => t.length - k) 0 ?_ ?_
  · simp only [upd_apply, envOf_apply, encT, Nat.reduceEqDiff, if_true, if_false]
    exact ⟨Nat.zero_le _, Acc.nil (HLe.refl _), rfl, rfl⟩
  · rintro k env s ⟨hk, hA, h4, h0⟩
    rcases Nat.lt_or_ge k t.length with hlt | hge
    · have hd := rowsD_at hlt
      have hpos : 0 < (rowsD t).length := by rw [rowsD_len]; omega
      simp -dsimp only [h4, h0, encT, encSS, hlt, hd, hpos, ↓preB, postB, genB, ↓reduceIte, Nat.reduceEqDiff, Int.reduceToNat, Int.reduceLE, Int.reduceLT, Nat.reduceAdd, Nat.reduceLeDiff, intBin, strBin, unD, extractD, lit1, lit2, lit3, keptD, boxR, D.one, D.pub1, D.cells, splice, cutOwn]
      intros
      have htt := tos_take (a := t) hlt
      refine hA.append hcl tz49 rfl tz29 rfl rfl rfl (by decide) (by simp; omega) (fedBy_sl (m := 1) tz49 rfl rfl) (by simp only []; omega) (by simp only [big]; omega) fun d' s' hA' => ?_
      simp -dsimp only [h4, h0, encT, encSS, hlt, hd, hpos, ↓preB, postB, genB, ↓reduceIte, Nat.reduceEqDiff, Int.reduceToNat, Int.reduceLE, Int.reduceLT, Nat.reduceAdd, Nat.reduceLeDiff, intBin, strBin, unD, extractD, lit1, lit2, lit3, keptD, boxR, D.one, D.pub1, D.cells, splice, cutOwn]
      refine ⟨k + 1, ⟨by omega, ?_, wrap64_succ (by omega)⟩, by omega⟩
      rw [htt, List.map_append]
      exact hA'
    · have hkl : k = t.length := by omega
      subst hkl
      rw [List.take_length] at hA
      simp -dsimp only [h4, h0, encT, Nat.lt_irrefl, ↓preB, postB, genB, ↓reduceIte, Nat.reduceEqDiff, Int.reduceToNat, Int.reduceLE, Int.reduceLT, Nat.reduceAdd, Nat.reduceLeDiff, intBin, strBin, unD, extractD, lit1, lit2, lit3, keptD, boxR, D.one, D.pub1, D.cells, splice, cutOwn]
      intros
      exact Ret.less hA.le hcl (by simpa [encLL] using hA.told) (bel_LL _)
theorem isPlain_c (t : List Sh) : Fn Zs 26 [encT t] (.bool (plainT t)) := by
  refine fn_of (Z := Zs) ok26 fun σ hcl hbl => ?_
  simp -dsimp only [L26, encT, ↓preB, postB, genB, ↓reduceIte, Nat.reduceEqDiff, Int.reduceToNat, Int.reduceLE, Int.reduceLT, Nat.reduceAdd, Nat.reduceLeDiff, intBin, strBin, unD, extractD, lit1, lit2, lit3, keptD, boxR, D.one, D.pub1, D.cells, splice, cutOwn]
  refine pwp_loopG (fun k env s => k ≤ t.length ∧ plainT (t.drop k) = plainT t ∧ s = σ ∧ env 3 = .int .i64 (k:Nat) ∧ env 0 = encT t) (fun k => t.length - k) 0 ?_ ?_
  · simp only [upd_apply, envOf_apply, encT, Nat.reduceEqDiff, if_true, if_false]
    exact ⟨Nat.zero_le _, by rw [List.drop_zero], trivial, rfl, rfl⟩
  · rintro k env s ⟨hk, hp, rfl, h3, h0⟩
    rcases Nat.lt_or_ge k t.length with hlt | hge
    · have hd := rowsD_at hlt
      have hpos : 0 < (rowsD t).length := by rw [rowsD_len]; omega
      rw [List.drop_eq_getElem_cons hlt, plainT, List.any_cons] at hp
      cases hc : ((t[k].From.length : Int) != 1) <;> simp -dsimp only [h3, h0, hc, encT, encSS, hlt, hd, hpos, ↓preB, postB, genB, ↓reduceIte, Nat.reduceEqDiff, Int.reduceToNat, Int.reduceLE, Int.reduceLT, Nat.reduceAdd, Nat.reduceLeDiff, intBin, strBin, unD, extractD, lit1, lit2, lit3, keptD, boxR, D.one, D.pub1, D.cells, splice, cutOwn]
      · intros
        rw [hc, Bool.false_or] at hp
        exact ⟨k + 1, ⟨by omega, by rw [← hp]; rfl, wrap64_succ (by omega)⟩, by omega⟩
      · intros
        rw [hc, Bool.true_or] at hp
        exact Ret.is (by rw [← hp]; rfl)
    · rw [List.drop_of_length_le hge] at hp
      simp -dsimp only [h3, h0, encT, Nat.not_lt.2 hge, ↓preB, postB, genB, ↓reduceIte, Nat.reduceEqDiff, Int.reduceToNat, Int.reduceLE, Int.reduceLT, Nat.reduceAdd, Nat.reduceLeDiff, intBin, strBin, unD, extractD, lit1, lit2, lit3, keptD, boxR, D.one, D.pub1, D.cells, splice, cutOwn]
      intros
      exact Ret.is (by rw [← hp]; rfl)
theorem sameT_c (t : List Sh) : Fn Zs 11 [encT t, encT t] (.bool true) := by
  refine fn_of (Z := Zs) ok11 fun σ hcl hbl => ?_
  simp -dsimp only [L11, encT, ↓preB, postB, genB, ↓reduceIte, Nat.reduceEqDiff, Int.reduceToNat, Int.reduceLE, Int.reduceLT, Nat.reduceAdd, Nat.reduceLeDiff, intBin, strBin, unD, extractD, lit1, lit2, lit3, keptD, boxR, D.one, D.pub1, D.cells, splice, cutOwn]
  intro q1 q2
  rw [if_neg (by simp)]
  refine pwp_loopG (fun k env s => k ≤ t.length ∧ s = σ ∧ env 5 = .int .i64 (k:Nat) ∧ env 0 = encT t ∧ env 1 = encT t) (fun k => t.length - k) 0 ?_ ?_
  · simp [upd_apply, envOf_apply, encT]
  · rintro k env s ⟨hk, rfl, h5, h0, h1⟩
    rcases Nat.lt_or_ge k t.length with hlt | hge
    · have hd := rowsD_at hlt
      have hpos : 0 < (rowsD t).length := by rw [rowsD_len]; omega
      have e1 : eqW t[k].From t[k].From = true := eqW_iff.2 rfl
      have e2 : eqW t[k].To t[k].To = true := eqW_iff.2 rfl
      simp -dsimp only [h5, h0, h1, encT, hlt, hd, hpos, ↓preB, postB, genB, ↓reduceIte, Nat.reduceEqDiff, Int.reduceToNat, Int.reduceLE, Int.reduceLT, Nat.reduceAdd, Nat.reduceLeDiff, intBin, strBin, unD, extractD, lit1, lit2, lit3, keptD, boxR, D.one, D.pub1, D.cells, splice, cutOwn]
      intro _
      refine draw_s ?_
      simp -dsimp only [h5, h0, h1, encT, hlt, hd, hpos, ↓preB, postB, genB, ↓reduceIte, Nat.reduceEqDiff, Int.reduceToNat, Int.reduceLE, Int.reduceLT, Nat.reduceAdd, Nat.reduceLeDiff, intBin, strBin, unD, extractD, lit1, lit2, lit3, keptD, boxR, D.one, D.pub1, D.cells, splice, cutOwn]
      refine Fn.useS (Same_c _ _) ?_
      simp -dsimp only [h5, h0, h1, e1, encT, hlt, hd, hpos, ↓preB, postB, genB, ↓reduceIte, Nat.reduceEqDiff, Int.reduceToNat, Int.reduceLE, Int.reduceLT, Nat.reduceAdd, Nat.reduceLeDiff, intBin, strBin, unD, extractD, lit1, lit2, lit3, keptD, boxR, D.one, D.pub1, D.cells, splice, cutOwn]
      refine Fn.useS (Same_c _ _) ?_
      simp -dsimp only [h5, h0, h1, e1, e2, encT, hlt, hd, hpos, ↓preB, postB, genB, ↓reduceIte, Nat.reduceEqDiff, Int.reduceToNat, Int.reduceLE, Int.reduceLT, Nat.reduceAdd, Nat.reduceLeDiff, intBin, strBin, unD, extractD, lit1, lit2, lit3, keptD, boxR, D.one, D.pub1, D.cells, splice, cutOwn]
      exact ⟨k + 1, ⟨by omega, wrap64_succ (by omega)⟩, by omega⟩
    · simp -dsimp only [h5, h0, h1, encT, Nat.not_lt.2 hge, ↓preB, postB, genB, ↓reduceIte, Nat.reduceEqDiff, Int.reduceToNat, Int.reduceLE, Int.reduceLT, Nat.reduceAdd, Nat.reduceLeDiff, intBin, strBin, unD, extractD, lit1, lit2, lit3, keptD, boxR, D.one, D.pub1, D.cells, splice, cutOwn]
      intro _
      exact Ret.is rfl
theorem flow_c (t : List Sh) (w : Wd) (h1 : ∀ r ∈ t, r.From ≠ []) (h2 : ∀ r ∈ t, r.To.length ≤ 60) (h3 : w.length ≤ 1000) : Fn Zs 31 [encT t, encSS w] (.tup [encSS (fedW t w).1, encSS (fedW t w).2]) := by
  refine fn_of (Z := Zs) ok31 fun σ hcl hbl => ?_
  simp -dsimp only [L31, encT, ↓preB, postB, genB, ↓reduceIte, Nat.reduceEqDiff, Int.reduceToNat, Int.reduceLE, Int.reduceLT, Nat.reduceAdd, Nat.reduceLeDiff, intBin, strBin, unD, extractD, lit1, lit2, lit3, keptD, boxR, D.one, D.pub1, D.cells, splice, cutOwn]
  refine pwp_loopG (fun (x : Wd × Wd) env s => (x.2.length + 60 * x.1.length ≤ 60 * w.length ∧ x.2 ++ (fedW t x.1).1 = (fedW t w).1 ∧ (fedW t x.1).2 = (fedW t w).2) ∧ Acc 9 1 σ x.2.length (x.2.map .str) (env 6) s ∧ env 1 = encSS x.1 ∧ env 0 = encT t) (fun x => x.1.length) (w, []) ?_ ?_
  · simp only [upd_apply, envOf_apply, encT, Nat.reduceEqDiff, if_true, if_false]
    exact ⟨⟨by simp, by simp, trivial⟩, Acc.nil (HLe.refl _), rfl, rfl⟩
  · rintro ⟨rest, out⟩ env s ⟨⟨hsz, hp1, hp2⟩, hA, h1', h0⟩
    simp only at hsz hp1 hp2 hA h1'
    have fin : rest.length = 0 ∨ waitsW t rest = true → Ret σ (fun d τ => d = .tup [encSS (fedW t w).1, encSS (fedW t w).2] ∧ τ = σ) (.tup [env 6, encSS rest]) s := fun hc => by
      rw [fedW_stop hc] at hp1 hp2
      rw [List.append_nil] at hp1
      simp only at hp2
      rw [← hp1, ← hp2]
      exact Ret.less hA.le hcl (.tup2 hA.told (.refl _)) (.tup2 (.no (bel_strs _)) (.no (bel_strs _)))
    by_cases hr : rest.length = 0
    · have hneg : decide ((0 : Int) < rest.length) = false := decide_eq_false (by omega)
      have hneg' : ¬ ((0 : Int) < rest.length) := by omega
      simp -dsimp only [h1', h0, hneg, hneg', encSS, encT, gate, show (false == true) = false from rfl, ↓preB, postB, genB, ↓reduceIte, Nat.reduceEqDiff, Int.reduceToNat, Int.reduceLE, Int.reduceLT, Nat.reduceAdd, Nat.reduceLeDiff, intBin, strBin, unD, extractD, lit1, lit2, lit3, keptD, boxR, D.one, D.pub1, D.cells, splice, cutOwn]
      intros
      exact fin (.inl hr)
    · have hpos : decide ((0 : Int) < rest.length) = true := decide_eq_true (by omega)
      have hpos' : (0 : Int) < rest.length := by omega
      simp -dsimp only [h1', h0, hpos, hpos', encSS, encT, gate, beq_self_eq_true, ↓preB, postB, genB, ↓reduceIte, Nat.reduceEqDiff, Int.reduceToNat, Int.reduceLE, Int.reduceLT, Nat.reduceAdd, Nat.reduceLeDiff, intBin, strBin, unD, extractD, lit1, lit2, lit3, keptD, boxR, D.one, D.pub1, D.cells, splice, cutOwn]
      intro hbig
      refine Fn.use (isLonger_c t rest) ?_
      by_cases hw : waitsW t rest = true
      · simp -dsimp only [h1', h0, hpos, hpos', hw, encSS, encT, gate, beq_self_eq_true, ↓preB, postB, genB, ↓reduceIte, Nat.reduceEqDiff, Int.reduceToNat, Int.reduceLE, Int.reduceLT, Nat.reduceAdd, Nat.reduceLeDiff, intBin, strBin, unD, extractD, lit1, lit2, lit3, keptD, boxR, D.one, D.pub1, D.cells, splice, cutOwn]
        exact fin (.inr hw)
      · have hr' : rest ≠ [] := fun e => hr (by rw [e]; rfl)
        have hw' : waitsW t rest = false := by simpa using hw
        obtain ⟨hs1, hs2⟩ := stepN_pos h1 hr'
        have hst := stepTo_le (t := t) (w := rest) h2
        rw [fedW_go h1 (by rintro (h | h); exact hr h; exact hw h)] at hp1 hp2
        simp only at hp1 hp2
        have hfin : ∀ d' s', Acc 9 1 σ (out.length + (stepTo t rest).length) (out.map .str ++ (stepTo t rest).map .str) d' s' → ∃ y : Wd × Wd, ((y.2.length + 60 * y.1.length ≤ 60 * w.length ∧ y.2 ++ (fedW t y.1).1 = (fedW t w).1 ∧ (fedW t y.1).2 = (fedW t w).2) ∧
            Acc 9 1 σ y.2.length (y.2.map .str) d' s' ∧ encSS (rest.drop (stepN t rest)) = encSS y.1) ∧ y.1.length < rest.length := fun d' s' hA' => by
          refine ⟨(rest.drop (stepN t rest), out ++ stepTo t rest), ⟨⟨?_, ?_, ?_⟩, ?_, rfl⟩, ?_⟩
          · simp only [List.length_append, List.length_drop]; omega
          · rw [← hp1, List.append_assoc]
          · exact hp2
          · simpa using hA'
          · simp only [List.length_drop]; omega
        simp -dsimp only [h1', h0, hpos, hpos', hw', encSS, encT, gate, beq_self_eq_true, ↓preB, postB, genB, ↓reduceIte, Nat.reduceEqDiff, Int.reduceToNat, Int.reduceLE, Int.reduceLT, Nat.reduceAdd, Nat.reduceLeDiff, intBin, strBin, unD, extractD, lit1, lit2, lit3, keptD, boxR, D.one, D.pub1, D.cells, splice, cutOwn]
        refine Fn.use (row_c t rest) ?_
        cases hf : fitW t rest with
        | none =>
          have e1 : stepTo t rest = [rest[0]] := by
            have : stepTo t rest = rest.take 1 := by simp [stepTo, hf]
            rw [this]
            cases rest with
            | nil => exact absurd rfl hr'
            | cons a l => rfl
          have e2 : stepN t rest = 1 := by simp [stepN, hf]
          have hx : rest[0]? = some rest[0] := List.getElem?_eq_getElem (by omega)
          simp -dsimp only [h1', h0, optI_none, neg1, hx, encSS, encT, ↓preB, postB, genB, ↓reduceIte, Nat.reduceEqDiff, Int.reduceToNat, Int.reduceLE, Int.reduceLT, Nat.reduceAdd, Nat.reduceLeDiff, intBin, strBin, unD, extractD, lit1, lit2, lit3, keptD, boxR, D.one, D.pub1, D.cells, splice, cutOwn]
          refine ⟨⟨by omega, by omega⟩, hA.append (m := 1) (ys := [.str rest[0]]) hcl tz29 rfl tz9 rfl rfl rfl (by decide) (by simp) (fedBy_sl tz29 rfl rfl) (by simp only []; omega) (by simp only [big]; omega) fun d' s' hA' => ?_⟩
          simp -dsimp only [h1', h0, encSS, encT, ↓preB, postB, genB, ↓reduceIte, Nat.reduceEqDiff, Int.reduceToNat, Int.reduceLE, Int.reduceLT, Nat.reduceAdd, Nat.reduceLeDiff, intBin, strBin, unD, extractD, lit1, lit2, lit3, keptD, boxR, D.one, D.pub1, D.cells, splice, cutOwn]
          refine ⟨⟨by omega, by omega⟩, ?_⟩
          have hd1 : D.sl .no (rest.length - 1) (((rest.map D.str).drop 1).take (rest.length - 1)) = encSS (rest.drop (stepN t rest)) := by rw [e2]; exact encSS_drop rest 1 (by omega)
          obtain ⟨y, ⟨hq, hA2, he⟩, hlt⟩ := hfin d' s' (by rw [e1]; exact hA')
          exact ⟨y, ⟨hq, hA2, by rw [← encSS, ← he]; exact hd1⟩, hlt⟩
        | some j =>
          have hj := fitW_lt hf
          have hd := rowsD_at hj
          have hpj : 0 < (rowsD t).length := by rw [rowsD_len]; omega
          have e1 : stepTo t rest = t[j].To := by simp [stepTo, hf, hj]
          have e2 : stepN t rest = t[j].From.length := by simp [stepN, hf, hj]
          simp -dsimp only [h1', h0, optI_some, natneg, encT, encSS, hj, hd, hpj, ↓preB, postB, genB, ↓reduceIte, Nat.reduceEqDiff, Int.reduceToNat, Int.reduceLE, Int.reduceLT, Nat.reduceAdd, Nat.reduceLeDiff, intBin, strBin, unD, extractD, lit1, lit2, lit3, keptD, boxR, D.one, D.pub1, D.cells, splice, cutOwn]
          refine hA.append (m := t[j].To.length) (ys := t[j].To.map .str) hcl tz29 rfl tz9 rfl rfl rfl (by decide) (by simp) (fedBy_sl tz29 rfl (by simp)) (by rw [← e1]; simp only []; omega) (by rw [← e1]; simp only [big]; omega) fun d' s' hA' => ?_
          simp -dsimp only [h1', h0, optI_some, natneg, encT, encSS, hj, hd, hpj, ↓preB, postB, genB, ↓reduceIte, Nat.reduceEqDiff, Int.reduceToNat, Int.reduceLE, Int.reduceLT, Nat.reduceAdd, Nat.reduceLeDiff, intBin, strBin, unD, extractD, lit1, lit2, lit3, keptD, boxR, D.one, D.pub1, D.cells, splice, cutOwn]
          intro _
          rw [← e2]
          refine ⟨⟨by omega, by omega⟩, ?_⟩
          obtain ⟨y, ⟨hq, hA2, he⟩, hlt⟩ := hfin d' s' (by rw [e1]; exact hA')
          exact ⟨y, ⟨hq, hA2, by rw [← encSS, ← he]; exact encSS_drop rest _ hs2⟩, hlt⟩
end Go.Proofs.YtldlcejlfaogbaaDoor.Vs
