/- How often each row is taken, by the reference; lists of numbers compared. -/
import Derived.Test.YtldlcejlfaogbaaFnL
namespace Go.Proofs.Ytldlcejlfaogbaa.Vs
set_option linter.unusedVariables false
set_option linter.unusedSimpArgs false
set_option maxRecDepth 20000

theorem cntW_len (t : List Sh) (w : Wd) : (cntW t w).length = t.length := by simp [cntW, cntF_len]
theorem cntF_bd (t : List Sh) (ht : ∀ w j, fitW t w = some j → j < t.length) : ∀ (n : Nat) (w : Wd) (c : List Int) (B : Int), c.length = t.length → (∀ x ∈ c, 0 ≤ x ∧ x + n ≤ B) → ∀ x ∈ cntF t n w c, 0 ≤ x ∧ x ≤ B
  | 0, w, c, B, hl, h, x, hx => by have := h x hx; constructor <;> omega
  | n + 1, w, c, B, hl, h, x, hx => by
    simp only [cntF] at hx
    split at hx
    · have := h x hx; constructor <;> omega
    · refine cntF_bd t ht n _ _ B (by rw [bump_len]; exact hl) (fun y hy => ?_) x hx
      cases hf : fitW t w with
      | none => rw [hf] at hy; have := h y hy; constructor <;> omega
      | some k =>
        rw [hf] at hy
        have hk : k < c.length := by rw [hl]; exact ht w k hf
        simp only [bump] at hy
        rcases List.mem_or_eq_of_mem_set hy with hy | hy
        · have := h y hy; constructor <;> omega
        · have := h _ (List.getElem_mem hk)
          rw [hy, List.getD_eq_getElem?_getD, List.getElem?_eq_getElem hk]
          simp only [Option.getD_some]
          constructor <;> omega
theorem cntW_bd {t : List Sh} {w : Wd} (hw : w.length ≤ 60) : ∀ x ∈ cntW t w, 0 ≤ x ∧ x ≤ 60 := by
  refine cntF_bd t (fun w j h => fitW_lt h) _ w _ 60 (by simp) (fun x hx => ?_)
  obtain ⟨_, rfl⟩ := List.mem_replicate.1 hx
  constructor <;> omega

/-- The first j numbers added. -/
def addTo (a m : List Int) (j : Nat) : List Int := addI (a.take j) (m.take j) ++ a.drop j
theorem addTo_len {a m : List Int} {j : Nat} (h : a.length = m.length) : (addTo a m j).length = a.length := by simp [addTo, addI]; omega
theorem addTo_zero (a m : List Int) : addTo a m 0 = a := by simp [addTo, addI]
theorem addTo_all {a m : List Int} {j : Nat} (h : a.length = m.length) (hj : a.length ≤ j) : addTo a m j = addI a m := by
  simp [addTo, List.take_of_length_le hj, List.take_of_length_le (show m.length ≤ j by omega), List.drop_of_length_le hj]
theorem addTo_get {a m : List Int} {j : Nat} (h : a.length = m.length) (hj : j < a.length) : (addTo a m j)[j]? = some (a[j]) := by
  have hl : (addI (a.take j) (m.take j)).length = j := by simp [addI]; omega
  rw [addTo, List.getElem?_append_right (by omega), hl]
  simp [hj]
theorem addTo_succ {a m : List Int} {j : Nat} (h : a.length = m.length) (hj : j < a.length) : (addTo a m j).set j (a[j] + m[j]'(by omega)) = addTo a m (j + 1) := by
  have hl : (addI (a.take j) (m.take j)).length = j := by simp [addI]; omega
  have hjm : j < m.length := by omega
  apply List.ext_getElem
  · rw [List.length_set, addTo_len h, addTo_len h]
  · intro i h1 h2
    have hi : i < a.length := by rw [List.length_set, addTo_len h] at h1; exact h1
    have him : i < m.length := by omega
    have hl1 : (addI (a.take (j + 1)) (m.take (j + 1))).length = j + 1 := by simp [addI]; omega
    rw [List.getElem_set]
    by_cases hji : j = i
    · subst hji
      simp only [if_true, addTo]
      rw [List.getElem_append_left (by omega)]
      simp [addI]
    · rw [if_neg hji]
      simp only [addTo]
      by_cases hlt : i < j
      · rw [List.getElem_append_left (by omega), List.getElem_append_left (by omega)]
        simp [addI]
      · rw [List.getElem_append_right (by omega), List.getElem_append_right (by omega)]
        simp only [hl, hl1, List.getElem_drop]
        congr 1; omega
theorem addTo_mem {a m : List Int} {j : Nat} {x : Int} (hx : x ∈ addTo a m j) : x ∈ a ∨ x ∈ addI a m := by
  simp only [addTo, List.mem_append] at hx
  rcases hx with hx | hx
  · right
    obtain ⟨i, hi, rfl⟩ := List.getElem_of_mem hx
    have hi' : i < (addI a m).length := by simp [addI] at hi ⊢; omega
    have : (addI (a.take j) (m.take j))[i] = (addI a m)[i] := by simp [addI]
    rw [this]; exact List.getElem_mem hi'
  · exact .inl (List.mem_of_mem_drop hx)

theorem refCover_c (t : List Sh) (l : List Wd) : Fn Zs 22 [encT t, encLL l] (.tup [encI (coverR t l).1, .int .i64 (coverR t l).2]) := by
  refine fn_of (Z := Zs) ok22 fun σ hcl hbl => ?_
  simp -dsimp only [L22, ↓preB, postB, ↓reduceIte, upd_apply, Nat.reduceEqDiff, List.map_cons, List.map_nil, Option.map_some, Option.map_none, List.cons_append, List.nil_append, List.getD_cons_zero, List.getD_cons_succ, gt_iff_lt, ge_iff_le, decide_eq_true_eq, decide_eq_false_iff_not, intBin, strBin, unD, retQ_ret, retQ_normal, List.getElem?_drop, List.getElem?_map, Nat.add_zero, Nat.zero_add, Int.toNat_natCast, Int.ofNat_lt, List.length_map, List.length_drop, and_true, true_and, D.int.injEq, D.str.injEq, D.bool.injEq, true_implies, implies_true, Int.natCast_nonneg, Option.some.injEq, exists_eq_left, exists_eq_left', Bool.false_eq_true, Bool.true_eq_false, decide_true, decide_false, not_true_eq_false, not_false_eq_true, Bool.not_true, Bool.not_false, List.getElem?_cons_zero, List.getElem?_cons_succ, List.drop_zero, List.drop_succ_cons, Bool.not_eq_true, Heap.set_same, Heap.set_set, Heap.new_same, Heap.next_new, Heap.next_set, Heap.next_del, Heap.new_set, extractD, lit1, lit2, lit3, keptD, boxR, Int.reduceToNat, Int.reduceLE, Int.reduceLT,  D.one, D.pub1, List.take_succ_cons, D.cells, splice, List.take_zero, List.length_cons, List.length_nil, Nat.reduceAdd, Nat.reduceLeDiff, List.drop_nil, List.append_nil, Nat.le_refl]
  refine Fn.use (refValidate_c t) ?_
  cases c1 : (badT t != 0)
  · obtain ⟨h1, h2⟩ := table_ok (by simpa using c1)
    have h4 := (badT_zero (by simpa using c1)).1
    simp -dsimp only [c1, encLL, ↓preB, postB, ↓reduceIte, upd_apply, Nat.reduceEqDiff, List.map_cons, List.map_nil, Option.map_some, Option.map_none, List.cons_append, List.nil_append, List.getD_cons_zero, List.getD_cons_succ, gt_iff_lt, ge_iff_le, decide_eq_true_eq, decide_eq_false_iff_not, intBin, strBin, unD, retQ_ret, retQ_normal, List.getElem?_drop, List.getElem?_map, Nat.add_zero, Nat.zero_add, Int.toNat_natCast, Int.ofNat_lt, List.length_map, List.length_drop, and_true, true_and, D.int.injEq, D.str.injEq, D.bool.injEq, true_implies, implies_true, Int.natCast_nonneg, Option.some.injEq, exists_eq_left, exists_eq_left', Bool.false_eq_true, Bool.true_eq_false, decide_true, decide_false, not_true_eq_false, not_false_eq_true, Bool.not_true, Bool.not_false, List.getElem?_cons_zero, List.getElem?_cons_succ, List.drop_zero, List.drop_succ_cons, Bool.not_eq_true, Heap.set_same, Heap.set_set, Heap.new_same, Heap.next_new, Heap.next_set, Heap.next_del, Heap.new_set, extractD, lit1, lit2, lit3, keptD, boxR, Int.reduceToNat, Int.reduceLE, Int.reduceLT,  D.one, D.pub1, List.take_succ_cons, D.cells, splice, List.take_zero, List.length_cons, List.length_nil, Nat.reduceAdd, Nat.reduceLeDiff, List.drop_nil, List.append_nil, Nat.le_refl]
    intro hbig
    by_cases c2 : (200 : Int) < l.length
    · simp -dsimp only [c1, c2, encLL, ↓preB, postB, ↓reduceIte, upd_apply, Nat.reduceEqDiff, List.map_cons, List.map_nil, Option.map_some, Option.map_none, List.cons_append, List.nil_append, List.getD_cons_zero, List.getD_cons_succ, gt_iff_lt, ge_iff_le, decide_eq_true_eq, decide_eq_false_iff_not, intBin, strBin, unD, retQ_ret, retQ_normal, List.getElem?_drop, List.getElem?_map, Nat.add_zero, Nat.zero_add, Int.toNat_natCast, Int.ofNat_lt, List.length_map, List.length_drop, and_true, true_and, D.int.injEq, D.str.injEq, D.bool.injEq, true_implies, implies_true, Int.natCast_nonneg, Option.some.injEq, exists_eq_left, exists_eq_left', Bool.false_eq_true, Bool.true_eq_false, decide_true, decide_false, not_true_eq_false, not_false_eq_true, Bool.not_true, Bool.not_false, List.getElem?_cons_zero, List.getElem?_cons_succ, List.drop_zero, List.drop_succ_cons, Bool.not_eq_true, Heap.set_same, Heap.set_set, Heap.new_same, Heap.next_new, Heap.next_set, Heap.next_del, Heap.new_set, extractD, lit1, lit2, lit3, keptD, boxR, Int.reduceToNat, Int.reduceLE, Int.reduceLT,  D.one, D.pub1, List.take_succ_cons, D.cells, splice, List.take_zero, List.length_cons, List.length_nil, Nat.reduceAdd, Nat.reduceLeDiff, List.drop_nil, List.append_nil, Nat.le_refl]
      simp only [coverR, c1, if_pos (show 200 < l.length by omega)]
      exact Ret.less (HLe.refl _) hcl (.tup2 (.sl .nil .no 0 [] [] (.inl rfl) rfl (fun i h => by cases h)) (.refl _)) (.tup2 (.no (by simp)) (.int _ _))
    · simp -dsimp only [c1, c2, ↓preB, postB, ↓reduceIte, upd_apply, Nat.reduceEqDiff, List.map_cons, List.map_nil, Option.map_some, Option.map_none, List.cons_append, List.nil_append, List.getD_cons_zero, List.getD_cons_succ, gt_iff_lt, ge_iff_le, decide_eq_true_eq, decide_eq_false_iff_not, intBin, strBin, unD, retQ_ret, retQ_normal, List.getElem?_drop, List.getElem?_map, Nat.add_zero, Nat.zero_add, Int.toNat_natCast, Int.ofNat_lt, List.length_map, List.length_drop, and_true, true_and, D.int.injEq, D.str.injEq, D.bool.injEq, true_implies, implies_true, Int.natCast_nonneg, Option.some.injEq, exists_eq_left, exists_eq_left', Bool.false_eq_true, Bool.true_eq_false, decide_true, decide_false, not_true_eq_false, not_false_eq_true, Bool.not_true, Bool.not_false, List.getElem?_cons_zero, List.getElem?_cons_succ, List.drop_zero, List.drop_succ_cons, Bool.not_eq_true, Heap.set_same, Heap.set_set, Heap.new_same, Heap.next_new, Heap.next_set, Heap.next_del, Heap.new_set, extractD, lit1, lit2, lit3, keptD, boxR, Int.reduceToNat, Int.reduceLE, Int.reduceLT,  D.one, D.pub1, List.take_succ_cons, D.cells, splice, List.take_zero, List.length_cons, List.length_nil, Nat.reduceAdd, Nat.reduceLeDiff, List.drop_nil, List.append_nil, Nat.le_refl]
      have hR : coverR t l = if badLL l != 0 then ([], badLL l) else (covW t l (List.replicate t.length 0), 0) := by
        simp only [coverR, c1, if_neg (show ¬ 200 < l.length by omega)]; rfl
      refine Fn.use (Words_c l) ?_
      rw [show ((l.map badW).find? (fun e => e != 0) |>.getD 0) = badLL l from rfl]
      cases c3 : (badLL l != 0)
      · have hz : badLL l = 0 := by simpa using c3
        have hws := badLL_zero hz
        rw [hR, c3]
        simp only [Bool.false_eq_true, if_false]
        simp -dsimp only [c3, encT, ↓preB, postB, ↓reduceIte, upd_apply, Nat.reduceEqDiff, List.map_cons, List.map_nil, Option.map_some, Option.map_none, List.cons_append, List.nil_append, List.getD_cons_zero, List.getD_cons_succ, gt_iff_lt, ge_iff_le, decide_eq_true_eq, decide_eq_false_iff_not, intBin, strBin, unD, retQ_ret, retQ_normal, List.getElem?_drop, List.getElem?_map, Nat.add_zero, Nat.zero_add, Int.toNat_natCast, Int.ofNat_lt, List.length_map, List.length_drop, and_true, true_and, D.int.injEq, D.str.injEq, D.bool.injEq, true_implies, implies_true, Int.natCast_nonneg, Option.some.injEq, exists_eq_left, exists_eq_left', Bool.false_eq_true, Bool.true_eq_false, decide_true, decide_false, not_true_eq_false, not_false_eq_true, Bool.not_true, Bool.not_false, List.getElem?_cons_zero, List.getElem?_cons_succ, List.drop_zero, List.drop_succ_cons, Bool.not_eq_true, Heap.set_same, Heap.set_set, Heap.new_same, Heap.next_new, Heap.next_set, Heap.next_del, Heap.new_set, extractD, lit1, lit2, lit3, keptD, boxR, Int.reduceToNat, Int.reduceLE, Int.reduceLT,  D.one, D.pub1, List.take_succ_cons, D.cells, splice, List.take_zero, List.length_cons, List.length_nil, Nat.reduceAdd, Nat.reduceLeDiff, List.drop_nil, List.append_nil, Nat.le_refl]
        intro hbigt
        refine ⟨⟨by omega, by omega, by simp only [big]; omega⟩, ?_⟩
        obtain ⟨q, hq⟩ : ∃ q, q = σ.next := ⟨_, rfl⟩
        refine pwp_loopG (fun (x : Nat × List Int) env s' => x.1 ≤ l.length ∧ covW t (l.drop x.1) x.2 = covW t l (List.replicate t.length 0) ∧ x.2.length = t.length ∧ (∀ c ∈ x.2, 0 ≤ c ∧ c ≤ 60 * x.1) ∧ s' = σ.new (.cells 3 (x.2.map (.int .i64))) ∧ env 9 = .int .i64 (x.1:Nat) ∧ env 0 = encT t ∧ env 1 = encLL l ∧ env 8 = .row q 0 t.length (some t.length) 1) (fun x => l.length - x.1) (0, List.replicate t.length 0) ?_ ?_
        · simp only [upd_apply, envOf_apply, Nat.reduceEqDiff, if_true, if_false, Int.toNat_natCast, encT, encLL]
          refine ⟨Nat.zero_le _, rfl, by simp, fun c hc => ?_, by rw [List.map_replicate], rfl, rfl, rfl, by rw [hq]⟩
          obtain ⟨_, rfl⟩ := List.mem_replicate.1 hc
          omega
        · rintro ⟨k, cnt⟩ env s' ⟨hk, hp, hcn, hcb, rfl, h9, h0, h1', h8⟩
          simp only at hk hp hcn hcb h9
          rcases Nat.lt_or_ge k l.length with hlt | hge
          · have hx : l[k]? = some l[k] := List.getElem?_eq_getElem hlt
            have hwl := badW_len (hws _ (List.getElem_mem hlt))
            have hml := cntW_len t l[k]
            have hcm : cnt.length = (cntW t l[k]).length := by omega
            have hmb := cntW_bd (t := t) hwl
            rw [List.drop_eq_getElem_cons hlt, covW_add t _ _ _ hcn] at hp
            have hlp : 0 < l.length := by omega
            have hsum : ∀ c ∈ addI cnt (cntW t l[k]), 0 ≤ c ∧ c ≤ 60 * k + 60 := fun c hc => by
              obtain ⟨i, hi, rfl⟩ := List.getElem_of_mem hc
              have hi1 : i < cnt.length := by simp [addI] at hi; omega
              have hi2 : i < (cntW t l[k]).length := by omega
              have e1 := hcb _ (List.getElem_mem hi1)
              have e2 := hmb _ (List.getElem_mem hi2)
              simp only [addI, List.getElem_zipWith]
              constructor <;> omega
            simp -dsimp only [h9, h0, h1', h8, encLL, hlt, hx, hlp, ↓preB, postB, ↓reduceIte, upd_apply, Nat.reduceEqDiff, List.map_cons, List.map_nil, Option.map_some, Option.map_none, List.cons_append, List.nil_append, List.getD_cons_zero, List.getD_cons_succ, gt_iff_lt, ge_iff_le, decide_eq_true_eq, decide_eq_false_iff_not, intBin, strBin, unD, retQ_ret, retQ_normal, List.getElem?_drop, List.getElem?_map, Nat.add_zero, Nat.zero_add, Int.toNat_natCast, Int.ofNat_lt, List.length_map, List.length_drop, and_true, true_and, D.int.injEq, D.str.injEq, D.bool.injEq, true_implies, implies_true, Int.natCast_nonneg, Option.some.injEq, exists_eq_left, exists_eq_left', Bool.false_eq_true, Bool.true_eq_false, decide_true, decide_false, not_true_eq_false, not_false_eq_true, Bool.not_true, Bool.not_false, List.getElem?_cons_zero, List.getElem?_cons_succ, List.drop_zero, List.drop_succ_cons, Bool.not_eq_true, Heap.set_same, Heap.set_set, Heap.new_same, Heap.next_new, Heap.next_set, Heap.next_del, Heap.new_set, extractD, lit1, lit2, lit3, keptD, boxR, Int.reduceToNat, Int.reduceLE, Int.reduceLT,  D.one, D.pub1, List.take_succ_cons, D.cells, splice, List.take_zero, List.length_cons, List.length_nil, Nat.reduceAdd, Nat.reduceLeDiff, List.drop_nil, List.append_nil, Nat.le_refl]
            intro hb1
            refine Fn.use (Shifted_c t _ h1 h2 (by omega) (by omega)) ?_
            simp -dsimp only [h9, h0, h1', h8, encLL, hlt, hx, hlp, ↓preB, postB, ↓reduceIte, upd_apply, Nat.reduceEqDiff, List.map_cons, List.map_nil, Option.map_some, Option.map_none, List.cons_append, List.nil_append, List.getD_cons_zero, List.getD_cons_succ, gt_iff_lt, ge_iff_le, decide_eq_true_eq, decide_eq_false_iff_not, intBin, strBin, unD, retQ_ret, retQ_normal, List.getElem?_drop, List.getElem?_map, Nat.add_zero, Nat.zero_add, Int.toNat_natCast, Int.ofNat_lt, List.length_map, List.length_drop, and_true, true_and, D.int.injEq, D.str.injEq, D.bool.injEq, true_implies, implies_true, Int.natCast_nonneg, Option.some.injEq, exists_eq_left, exists_eq_left', Bool.false_eq_true, Bool.true_eq_false, decide_true, decide_false, not_true_eq_false, not_false_eq_true, Bool.not_true, Bool.not_false, List.getElem?_cons_zero, List.getElem?_cons_succ, List.drop_zero, List.drop_succ_cons, Bool.not_eq_true, Heap.set_same, Heap.set_set, Heap.new_same, Heap.next_new, Heap.next_set, Heap.next_del, Heap.new_set, extractD, lit1, lit2, lit3, keptD, boxR, Int.reduceToNat, Int.reduceLE, Int.reduceLT,  D.one, D.pub1, List.take_succ_cons, D.cells, splice, List.take_zero, List.length_cons, List.length_nil, Nat.reduceAdd, Nat.reduceLeDiff, List.drop_nil, List.append_nil, Nat.le_refl]
            refine pwp_loopG (fun (j : Nat) env s' => j ≤ t.length ∧ s' = σ.new (.cells 3 ((addTo cnt (cntW t l[k]) j).map (.int .i64))) ∧ env 13 = .int .i64 (j:Nat) ∧ env 12 = encI (cntW t l[k]) ∧ env 9 = .int .i64 (k:Nat) ∧ env 0 = encT t ∧ env 1 = encLL l ∧ env 8 = .row q 0 t.length (some t.length) 1) (fun j => t.length - j) 0 ?_ ?_
            · simp only [upd_apply, Nat.reduceEqDiff, if_true, if_false, h9, h0, h1', h8, addTo_zero]
              exact ⟨Nat.zero_le _, trivial, rfl, trivial, trivial, trivial, trivial, trivial⟩
            · rintro j env s' ⟨hj, rfl, h13, h12, h9, h0, h1', h8⟩
              rcases Nat.lt_or_ge j t.length with hjt | hjt
              · have hjc : j < cnt.length := by omega
                have hjm : j < (cntW t l[k]).length := by omega
                have hg := addTo_get hcm hjc
                have hm : (cntW t l[k])[j]? = some ((cntW t l[k])[j]'hjm) := List.getElem?_eq_getElem hjm
                have hal := addTo_len (j := j) hcm
                have e1 := hcb _ (List.getElem_mem hjc)
                have e2 := hmb _ (List.getElem_mem hjm)
                have hw : IntKind.i64.wrap (cnt[j]'hjc + (cntW t l[k])[j]'hjm) = cnt[j]'hjc + (cntW t l[k])[j]'hjm := wrap64_in (by omega) (by omega)
                have hsp : List.take j (List.map (D.int .i64) (addTo cnt (cntW t l[k]) j)) ++ [D.int .i64 (cnt[j]'hjc + (cntW t l[k])[j]'hjm)] ++ List.drop (j + 1) (List.map (D.int .i64) (addTo cnt (cntW t l[k]) j)) = List.map (D.int .i64) (addTo cnt (cntW t l[k]) (j + 1)) := by
                  rw [splice_one (by rw [List.length_map, hal]; exact hjc), ← addTo_succ hcm hjc, List.map_set]
                have hjal : j < (addTo cnt (cntW t l[k]) j).length := by omega
                have hjt' : (j : Int) < (cntW t l[k]).length := by omega
                have hmp : 0 < (cntW t l[k]).length := by omega
                simp -dsimp only [h13, h12, h9, h0, h1', h8, encI, encT, hjt, hq, ↓preB, postB, ↓reduceIte, upd_apply, Nat.reduceEqDiff, List.map_cons, List.map_nil, Option.map_some, Option.map_none, List.cons_append, List.nil_append, List.getD_cons_zero, List.getD_cons_succ, gt_iff_lt, ge_iff_le, decide_eq_true_eq, decide_eq_false_iff_not, intBin, strBin, unD, retQ_ret, retQ_normal, List.getElem?_drop, List.getElem?_map, Nat.add_zero, Nat.zero_add, Int.toNat_natCast, Int.ofNat_lt, List.length_map, List.length_drop, and_true, true_and, D.int.injEq, D.str.injEq, D.bool.injEq, true_implies, implies_true, Int.natCast_nonneg, Option.some.injEq, exists_eq_left, exists_eq_left', Bool.false_eq_true, Bool.true_eq_false, decide_true, decide_false, not_true_eq_false, not_false_eq_true, Bool.not_true, Bool.not_false, List.getElem?_cons_zero, List.getElem?_cons_succ, List.drop_zero, List.drop_succ_cons, Bool.not_eq_true, Heap.set_same, Heap.set_set, Heap.new_same, Heap.next_new, Heap.next_set, Heap.next_del, Heap.new_set, extractD, lit1, lit2, lit3, keptD, boxR, Int.reduceToNat, Int.reduceLE, Int.reduceLT,  D.one, D.pub1, List.take_succ_cons, D.cells, splice, List.take_zero, List.length_cons, List.length_nil, Nat.reduceAdd, Nat.reduceLeDiff, List.drop_nil, List.append_nil, Nat.le_refl]
                intro hb2
                refine draw_t 9 (by decide) ?_
                simp -dsimp only [h13, h12, h9, h0, h1', h8, encI, encT, hjt, hjt', hmp, hq, hg, hm, hw, hsp, hjal, ↓preB, postB, ↓reduceIte, upd_apply, Nat.reduceEqDiff, List.map_cons, List.map_nil, Option.map_some, Option.map_none, List.cons_append, List.nil_append, List.getD_cons_zero, List.getD_cons_succ, gt_iff_lt, ge_iff_le, decide_eq_true_eq, decide_eq_false_iff_not, intBin, strBin, unD, retQ_ret, retQ_normal, List.getElem?_drop, List.getElem?_map, Nat.add_zero, Nat.zero_add, Int.toNat_natCast, Int.ofNat_lt, List.length_map, List.length_drop, and_true, true_and, D.int.injEq, D.str.injEq, D.bool.injEq, true_implies, implies_true, Int.natCast_nonneg, Option.some.injEq, exists_eq_left, exists_eq_left', Bool.false_eq_true, Bool.true_eq_false, decide_true, decide_false, not_true_eq_false, not_false_eq_true, Bool.not_true, Bool.not_false, List.getElem?_cons_zero, List.getElem?_cons_succ, List.drop_zero, List.drop_succ_cons, Bool.not_eq_true, Heap.set_same, Heap.set_set, Heap.new_same, Heap.next_new, Heap.next_set, Heap.next_del, Heap.new_set, extractD, lit1, lit2, lit3, keptD, boxR, Int.reduceToNat, Int.reduceLE, Int.reduceLT,  D.one, D.pub1, List.take_succ_cons, D.cells, splice, List.take_zero, List.length_cons, List.length_nil, Nat.reduceAdd, Nat.reduceLeDiff, List.drop_nil, List.append_nil, Nat.le_refl]
                exact ⟨hjal, j + 1, ⟨by omega, rfl, wrap64_succ (by omega)⟩, by omega⟩
              · have he := addTo_all (j := j) hcm (by omega)
                simp -dsimp only [h13, h12, h9, h0, h1', h8, encT, Nat.not_lt.2 hjt, ↓preB, postB, ↓reduceIte, upd_apply, Nat.reduceEqDiff, List.map_cons, List.map_nil, Option.map_some, Option.map_none, List.cons_append, List.nil_append, List.getD_cons_zero, List.getD_cons_succ, gt_iff_lt, ge_iff_le, decide_eq_true_eq, decide_eq_false_iff_not, intBin, strBin, unD, retQ_ret, retQ_normal, List.getElem?_drop, List.getElem?_map, Nat.add_zero, Nat.zero_add, Int.toNat_natCast, Int.ofNat_lt, List.length_map, List.length_drop, and_true, true_and, D.int.injEq, D.str.injEq, D.bool.injEq, true_implies, implies_true, Int.natCast_nonneg, Option.some.injEq, exists_eq_left, exists_eq_left', Bool.false_eq_true, Bool.true_eq_false, decide_true, decide_false, not_true_eq_false, not_false_eq_true, Bool.not_true, Bool.not_false, List.getElem?_cons_zero, List.getElem?_cons_succ, List.drop_zero, List.drop_succ_cons, Bool.not_eq_true, Heap.set_same, Heap.set_set, Heap.new_same, Heap.next_new, Heap.next_set, Heap.next_del, Heap.new_set, extractD, lit1, lit2, lit3, keptD, boxR, Int.reduceToNat, Int.reduceLE, Int.reduceLT,  D.one, D.pub1, List.take_succ_cons, D.cells, splice, List.take_zero, List.length_cons, List.length_nil, Nat.reduceAdd, Nat.reduceLeDiff, List.drop_nil, List.append_nil, Nat.le_refl]
                intro hb2
                rw [he]
                refine ⟨(k + 1, addI cnt (cntW t l[k])), ⟨by omega, hp, by rw [addI_len hcm]; exact hcn, fun c hc => ?_, rfl, wrap64_succ (by omega)⟩, by simp only; omega⟩
                have := hsum c hc
                constructor <;> omega
          · rw [List.drop_of_length_le hge, covW] at hp
            simp -dsimp only [h9, h0, h1', h8, encLL, Nat.not_lt.2 hge, ↓preB, postB, ↓reduceIte, upd_apply, Nat.reduceEqDiff, List.map_cons, List.map_nil, Option.map_some, Option.map_none, List.cons_append, List.nil_append, List.getD_cons_zero, List.getD_cons_succ, gt_iff_lt, ge_iff_le, decide_eq_true_eq, decide_eq_false_iff_not, intBin, strBin, unD, retQ_ret, retQ_normal, List.getElem?_drop, List.getElem?_map, Nat.add_zero, Nat.zero_add, Int.toNat_natCast, Int.ofNat_lt, List.length_map, List.length_drop, and_true, true_and, D.int.injEq, D.str.injEq, D.bool.injEq, true_implies, implies_true, Int.natCast_nonneg, Option.some.injEq, exists_eq_left, exists_eq_left', Bool.false_eq_true, Bool.true_eq_false, decide_true, decide_false, not_true_eq_false, not_false_eq_true, Bool.not_true, Bool.not_false, List.getElem?_cons_zero, List.getElem?_cons_succ, List.drop_zero, List.drop_succ_cons, Bool.not_eq_true, Heap.set_same, Heap.set_set, Heap.new_same, Heap.next_new, Heap.next_set, Heap.next_del, Heap.new_set, extractD, lit1, lit2, lit3, keptD, boxR, Int.reduceToNat, Int.reduceLE, Int.reduceLT,  D.one, D.pub1, List.take_succ_cons, D.cells, splice, List.take_zero, List.length_cons, List.length_nil, Nat.reduceAdd, Nat.reduceLeDiff, List.drop_nil, List.append_nil, Nat.le_refl]
            intros
            rw [← hp]
            refine Ret.less (HLe.self_new _ hcl) hcl (.tup2 ?_ (.refl _)) (.tup2 (.no (bel_ints _)) (.int _ _))
            simp only [encI, hcn]
            exact Told.rowI (by rw [hq]; exact Heap.new_same _ _) (hcl.none (by omega)) (by simp [hcn])
      · simp -dsimp only [c3, ↓preB, postB, ↓reduceIte, upd_apply, Nat.reduceEqDiff, List.map_cons, List.map_nil, Option.map_some, Option.map_none, List.cons_append, List.nil_append, List.getD_cons_zero, List.getD_cons_succ, gt_iff_lt, ge_iff_le, decide_eq_true_eq, decide_eq_false_iff_not, intBin, strBin, unD, retQ_ret, retQ_normal, List.getElem?_drop, List.getElem?_map, Nat.add_zero, Nat.zero_add, Int.toNat_natCast, Int.ofNat_lt, List.length_map, List.length_drop, and_true, true_and, D.int.injEq, D.str.injEq, D.bool.injEq, true_implies, implies_true, Int.natCast_nonneg, Option.some.injEq, exists_eq_left, exists_eq_left', Bool.false_eq_true, Bool.true_eq_false, decide_true, decide_false, not_true_eq_false, not_false_eq_true, Bool.not_true, Bool.not_false, List.getElem?_cons_zero, List.getElem?_cons_succ, List.drop_zero, List.drop_succ_cons, Bool.not_eq_true, Heap.set_same, Heap.set_set, Heap.new_same, Heap.next_new, Heap.next_set, Heap.next_del, Heap.new_set, extractD, lit1, lit2, lit3, keptD, boxR, Int.reduceToNat, Int.reduceLE, Int.reduceLT,  D.one, D.pub1, List.take_succ_cons, D.cells, splice, List.take_zero, List.length_cons, List.length_nil, Nat.reduceAdd, Nat.reduceLeDiff, List.drop_nil, List.append_nil, Nat.le_refl]
        rw [hR, c3]
        simp only [if_true]
        exact Ret.less (HLe.refl _) hcl (.tup2 (.sl .nil .no 0 [] [] (.inl rfl) rfl (fun i h => by cases h)) (.refl _)) (.tup2 (.no (by simp)) (.int _ _))
  · simp -dsimp only [c1, encLL, ↓preB, postB, ↓reduceIte, upd_apply, Nat.reduceEqDiff, List.map_cons, List.map_nil, Option.map_some, Option.map_none, List.cons_append, List.nil_append, List.getD_cons_zero, List.getD_cons_succ, gt_iff_lt, ge_iff_le, decide_eq_true_eq, decide_eq_false_iff_not, intBin, strBin, unD, retQ_ret, retQ_normal, List.getElem?_drop, List.getElem?_map, Nat.add_zero, Nat.zero_add, Int.toNat_natCast, Int.ofNat_lt, List.length_map, List.length_drop, and_true, true_and, D.int.injEq, D.str.injEq, D.bool.injEq, true_implies, implies_true, Int.natCast_nonneg, Option.some.injEq, exists_eq_left, exists_eq_left', Bool.false_eq_true, Bool.true_eq_false, decide_true, decide_false, not_true_eq_false, not_false_eq_true, Bool.not_true, Bool.not_false, List.getElem?_cons_zero, List.getElem?_cons_succ, List.drop_zero, List.drop_succ_cons, Bool.not_eq_true, Heap.set_same, Heap.set_set, Heap.new_same, Heap.next_new, Heap.next_set, Heap.next_del, Heap.new_set, extractD, lit1, lit2, lit3, keptD, boxR, Int.reduceToNat, Int.reduceLE, Int.reduceLT,  D.one, D.pub1, List.take_succ_cons, D.cells, splice, List.take_zero, List.length_cons, List.length_nil, Nat.reduceAdd, Nat.reduceLeDiff, List.drop_nil, List.append_nil, Nat.le_refl]
    simp only [coverR, c1]
    exact Ret.less (HLe.refl _) hcl (.tup2 (.sl .nil .no 0 [] [] (.inl rfl) rfl (fun i h => by cases h)) (.refl _)) (.tup2 (.no (by simp)) (.int _ _))

end Go.Proofs.Ytldlcejlfaogbaa.Vs
