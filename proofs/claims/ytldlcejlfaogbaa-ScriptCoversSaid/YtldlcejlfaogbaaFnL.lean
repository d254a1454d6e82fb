/- How often each row is taken: the program's count and the reference's. -/
import Derived.Test.YtldlcejlfaogbaaFnI
namespace Go.Proofs.Ytldlcejlfaogbaa.Vs
set_option linter.unusedVariables false
set_option linter.unusedSimpArgs false
set_option maxRecDepth 20000

def badLL (l : List Wd) : Int := ((l.map badW).find? (fun e => e != 0)).getD 0
theorem badLL_nil : badLL [] = 0 := rfl
theorem badLL_cons (w : Wd) (l : List Wd) : badLL (w :: l) = if badW w != 0 then badW w else badLL l := by
  simp only [badLL, List.map_cons, List.find?_cons]
  cases h : (badW w != 0) <;> simp
theorem badLL_zero : ∀ {l : List Wd}, badLL l = 0 → ∀ w ∈ l, badW w = 0
  | [], _, w, h => by cases h
  | v :: l, h, w, hw => by
    rw [badLL_cons] at h
    cases hb : (badW v != 0) with
    | true => rw [hb] at h; simp only [if_true] at h; rw [h] at hb; simp at hb
    | false =>
      rw [hb] at h
      simp only [Bool.false_eq_true, if_false] at h
      rcases List.mem_cons.1 hw with rfl | hw
      · simpa using hb
      · exact badLL_zero h w hw

def addI (a b : List Int) : List Int := List.zipWith (· + ·) a b
theorem addI_len {a b : List Int} (h : a.length = b.length) : (addI a b).length = a.length := by simp [addI, h]
theorem addI_zero (c : List Int) : addI c (List.replicate c.length 0) = c := by
  apply List.ext_getElem
  · simp [addI]
  · intro i h1 h2; simp [addI]
theorem addI_assoc (a b c : List Int) : addI a (addI b c) = addI (addI a b) c := by
  apply List.ext_getElem
  · simp only [addI, List.length_zipWith]; omega
  · intro i h1 h2; simp [addI]; omega
theorem bump_add (c : List Int) (b : Option Nat) : bump c b = addI c (bump (List.replicate c.length 0) b) := by
  cases b with
  | none => exact (addI_zero c).symm
  | some k =>
    apply List.ext_getElem
    · simp [addI, bump]
    · intro i h1 h2
      have hi : i < c.length := by simpa [bump] using h1
      simp only [bump, addI, List.getElem_zipWith, List.getElem_set]
      by_cases hk : k = i
      · subst hk; simp [hi]
      · simp [hk]
theorem cntF_add (t : List Sh) : ∀ (n : Nat) (w : Wd) (c : List Int), cntF t n w c = addI c (cntF t n w (List.replicate c.length 0))
  | 0, w, c => (addI_zero c).symm
  | n + 1, w, c => by
    simp only [cntF]
    split
    · exact (addI_zero c).symm
    · rw [cntF_add t n _ (bump c (fitW t w)), cntF_add t n _ (bump (List.replicate c.length 0) (fitW t w)), bump_len, bump_len, List.length_replicate, addI_assoc, ← bump_add]
/-- What is counted of words, one behind the other. -/
def covW (t : List Sh) : List Wd → List Int → List Int
  | [], c => c
  | w :: l, c => covW t l (cntF t w.length w c)
theorem covW_add (t : List Sh) (w : Wd) (l : List Wd) (c : List Int) (h : c.length = t.length) : covW t (w :: l) c = covW t l (addI c (cntW t w)) := by
  rw [covW, cntF_add, h]; rfl
def coverR (t : List Sh) (l : List Wd) : List Int × Int :=
  if badT t != 0 then ([], badT t) else if 200 < l.length then ([], 3) else if badLL l != 0 then ([], badLL l) else (covW t l (List.replicate t.length 0), 0)
theorem encI_nil : encI [] = .sl .no 0 [] := rfl

theorem Cover_c (t : List Sh) (l : List Wd) : Fn Zs 21 [encT t, encLL l] (.tup [encI (coverR t l).1, .int .i64 (coverR t l).2]) := by
  refine fn_of (Z := Zs) ok21 fun σ hcl hbl => ?_
  simp -dsimp only [L21, encLL, ↓preB, postB, ↓reduceIte, upd_apply, Nat.reduceEqDiff, List.map_cons, List.map_nil, Option.map_some, Option.map_none, List.cons_append, List.nil_append, List.getD_cons_zero, List.getD_cons_succ, gt_iff_lt, ge_iff_le, decide_eq_true_eq, decide_eq_false_iff_not, intBin, strBin, unD, retQ_ret, retQ_normal, List.getElem?_drop, List.getElem?_map, Nat.add_zero, Nat.zero_add, Int.toNat_natCast, Int.ofNat_lt, List.length_map, List.length_drop, and_true, true_and, D.int.injEq, D.str.injEq, D.bool.injEq, true_implies, implies_true, Int.natCast_nonneg, Option.some.injEq, exists_eq_left, exists_eq_left', Bool.false_eq_true, Bool.true_eq_false, decide_true, decide_false, not_true_eq_false, not_false_eq_true, Bool.not_true, Bool.not_false, List.getElem?_cons_zero, List.getElem?_cons_succ, List.drop_zero, List.drop_succ_cons, Bool.not_eq_true, Heap.set_same, Heap.set_set, Heap.new_same, Heap.next_new, Heap.next_set, Heap.next_del, Heap.new_set, extractD, lit1, lit2, lit3, keptD, boxR, Int.reduceToNat, Int.reduceLE, Int.reduceLT,  D.one, D.pub1, List.take_succ_cons, D.cells, splice, List.take_zero, List.length_cons, List.length_nil, Nat.reduceAdd, Nat.reduceLeDiff, List.drop_nil, List.append_nil, Nat.le_refl]
  refine Fn.use (validate_c t) ?_
  cases c1 : (badT t != 0)
  · obtain ⟨h1, h2⟩ := table_ok (by simpa using c1)
    have h4 := (badT_zero (by simpa using c1)).1
    simp -dsimp only [c1, encLL, ↓preB, postB, ↓reduceIte, upd_apply, Nat.reduceEqDiff, List.map_cons, List.map_nil, Option.map_some, Option.map_none, List.cons_append, List.nil_append, List.getD_cons_zero, List.getD_cons_succ, gt_iff_lt, ge_iff_le, decide_eq_true_eq, decide_eq_false_iff_not, intBin, strBin, unD, retQ_ret, retQ_normal, List.getElem?_drop, List.getElem?_map, Nat.add_zero, Nat.zero_add, Int.toNat_natCast, Int.ofNat_lt, List.length_map, List.length_drop, and_true, true_and, D.int.injEq, D.str.injEq, D.bool.injEq, true_implies, implies_true, Int.natCast_nonneg, Option.some.injEq, exists_eq_left, exists_eq_left', Bool.false_eq_true, Bool.true_eq_false, decide_true, decide_false, not_true_eq_false, not_false_eq_true, Bool.not_true, Bool.not_false, List.getElem?_cons_zero, List.getElem?_cons_succ, List.drop_zero, List.drop_succ_cons, Bool.not_eq_true, Heap.set_same, Heap.set_set, Heap.new_same, Heap.next_new, Heap.next_set, Heap.next_del, Heap.new_set, extractD, lit1, lit2, lit3, keptD, boxR, Int.reduceToNat, Int.reduceLE, Int.reduceLT,  D.one, D.pub1, List.take_succ_cons, D.cells, splice, List.take_zero, List.length_cons, List.length_nil, Nat.reduceAdd, Nat.reduceLeDiff, List.drop_nil, List.append_nil, Nat.le_refl]
    intro hbig
    by_cases c2 : (200 : Int) < l.length
    · simp -dsimp only [c1, c2, encLL, ↓preB, postB, ↓reduceIte, upd_apply, Nat.reduceEqDiff, List.map_cons, List.map_nil, Option.map_some, Option.map_none, List.cons_append, List.nil_append, List.getD_cons_zero, List.getD_cons_succ, gt_iff_lt, ge_iff_le, decide_eq_true_eq, decide_eq_false_iff_not, intBin, strBin, unD, retQ_ret, retQ_normal, List.getElem?_drop, List.getElem?_map, Nat.add_zero, Nat.zero_add, Int.toNat_natCast, Int.ofNat_lt, List.length_map, List.length_drop, and_true, true_and, D.int.injEq, D.str.injEq, D.bool.injEq, true_implies, implies_true, Int.natCast_nonneg, Option.some.injEq, exists_eq_left, exists_eq_left', Bool.false_eq_true, Bool.true_eq_false, decide_true, decide_false, not_true_eq_false, not_false_eq_true, Bool.not_true, Bool.not_false, List.getElem?_cons_zero, List.getElem?_cons_succ, List.drop_zero, List.drop_succ_cons, Bool.not_eq_true, Heap.set_same, Heap.set_set, Heap.new_same, Heap.next_new, Heap.next_set, Heap.next_del, Heap.new_set, extractD, lit1, lit2, lit3, keptD, boxR, Int.reduceToNat, Int.reduceLE, Int.reduceLT,  D.one, D.pub1, List.take_succ_cons, D.cells, splice, List.take_zero, List.length_cons, List.length_nil, Nat.reduceAdd, Nat.reduceLeDiff, List.drop_nil, List.append_nil, Nat.le_refl]
      simp only [coverR, c1, if_pos (show 200 < l.length by omega)]
      exact Ret.less (HLe.refl _) hcl (.tup2 (.sl .nil .no 0 [] [] (.inl rfl) rfl (fun i h => by cases h)) (.refl _)) (.tup2 (.no (by simp)) (.int _ _))
    · simp -dsimp only [c1, c2, encLL, ↓preB, postB, ↓reduceIte, upd_apply, Nat.reduceEqDiff, List.map_cons, List.map_nil, Option.map_some, Option.map_none, List.cons_append, List.nil_append, List.getD_cons_zero, List.getD_cons_succ, gt_iff_lt, ge_iff_le, decide_eq_true_eq, decide_eq_false_iff_not, intBin, strBin, unD, retQ_ret, retQ_normal, List.getElem?_drop, List.getElem?_map, Nat.add_zero, Nat.zero_add, Int.toNat_natCast, Int.ofNat_lt, List.length_map, List.length_drop, and_true, true_and, D.int.injEq, D.str.injEq, D.bool.injEq, true_implies, implies_true, Int.natCast_nonneg, Option.some.injEq, exists_eq_left, exists_eq_left', Bool.false_eq_true, Bool.true_eq_false, decide_true, decide_false, not_true_eq_false, not_false_eq_true, Bool.not_true, Bool.not_false, List.getElem?_cons_zero, List.getElem?_cons_succ, List.drop_zero, List.drop_succ_cons, Bool.not_eq_true, Heap.set_same, Heap.set_set, Heap.new_same, Heap.next_new, Heap.next_set, Heap.next_del, Heap.new_set, extractD, lit1, lit2, lit3, keptD, boxR, Int.reduceToNat, Int.reduceLE, Int.reduceLT,  D.one, D.pub1, List.take_succ_cons, D.cells, splice, List.take_zero, List.length_cons, List.length_nil, Nat.reduceAdd, Nat.reduceLeDiff, List.drop_nil, List.append_nil, Nat.le_refl]
      have hR : coverR t l = if badLL l != 0 then ([], badLL l) else (covW t l (List.replicate t.length 0), 0) := by
        simp only [coverR, c1, if_neg (show ¬ 200 < l.length by omega)]; rfl
      intro _
      refine pwp_loopG (fun k env s => k ≤ l.length ∧ badLL (l.drop k) = badLL l ∧ s = σ ∧ env 26 = .int .i64 (k:Nat) ∧ env 25 = .int .i64 l.length ∧ env 24 = encLL l ∧ env 0 = encT t ∧ env 1 = encLL l) (fun k => l.length - k) 0 ?_ ?_
      · simp [upd_apply, envOf_apply, encLL]
      · rintro k env s ⟨hk, hp, rfl, h26, h25, h24, h0, h1'⟩
        rcases Nat.lt_or_ge k l.length with hlt | hge
        · have hx : l[k]? = some l[k] := List.getElem?_eq_getElem hlt
          rw [List.drop_eq_getElem_cons hlt, badLL_cons] at hp
          simp -dsimp only [h26, h25, h24, h0, h1', encLL, hlt, hx, ↓preB, postB, ↓reduceIte, upd_apply, Nat.reduceEqDiff, List.map_cons, List.map_nil, Option.map_some, Option.map_none, List.cons_append, List.nil_append, List.getD_cons_zero, List.getD_cons_succ, gt_iff_lt, ge_iff_le, decide_eq_true_eq, decide_eq_false_iff_not, intBin, strBin, unD, retQ_ret, retQ_normal, List.getElem?_drop, List.getElem?_map, Nat.add_zero, Nat.zero_add, Int.toNat_natCast, Int.ofNat_lt, List.length_map, List.length_drop, and_true, true_and, D.int.injEq, D.str.injEq, D.bool.injEq, true_implies, implies_true, Int.natCast_nonneg, Option.some.injEq, exists_eq_left, exists_eq_left', Bool.false_eq_true, Bool.true_eq_false, decide_true, decide_false, not_true_eq_false, not_false_eq_true, Bool.not_true, Bool.not_false, List.getElem?_cons_zero, List.getElem?_cons_succ, List.drop_zero, List.drop_succ_cons, Bool.not_eq_true, Heap.set_same, Heap.set_set, Heap.new_same, Heap.next_new, Heap.next_set, Heap.next_del, Heap.new_set, extractD, lit1, lit2, lit3, keptD, boxR, Int.reduceToNat, Int.reduceLE, Int.reduceLT,  D.one, D.pub1, List.take_succ_cons, D.cells, splice, List.take_zero, List.length_cons, List.length_nil, Nat.reduceAdd, Nat.reduceLeDiff, List.drop_nil, List.append_nil, Nat.le_refl]
          refine ⟨by omega, Fn.use (symsValidateWord_c _) ?_⟩
          cases c3 : (badW l[k] != 0)
          · simp -dsimp only [h26, h25, h24, h0, h1', encLL, hlt, hx, c3, ↓preB, postB, ↓reduceIte, upd_apply, Nat.reduceEqDiff, List.map_cons, List.map_nil, Option.map_some, Option.map_none, List.cons_append, List.nil_append, List.getD_cons_zero, List.getD_cons_succ, gt_iff_lt, ge_iff_le, decide_eq_true_eq, decide_eq_false_iff_not, intBin, strBin, unD, retQ_ret, retQ_normal, List.getElem?_drop, List.getElem?_map, Nat.add_zero, Nat.zero_add, Int.toNat_natCast, Int.ofNat_lt, List.length_map, List.length_drop, and_true, true_and, D.int.injEq, D.str.injEq, D.bool.injEq, true_implies, implies_true, Int.natCast_nonneg, Option.some.injEq, exists_eq_left, exists_eq_left', Bool.false_eq_true, Bool.true_eq_false, decide_true, decide_false, not_true_eq_false, not_false_eq_true, Bool.not_true, Bool.not_false, List.getElem?_cons_zero, List.getElem?_cons_succ, List.drop_zero, List.drop_succ_cons, Bool.not_eq_true, Heap.set_same, Heap.set_set, Heap.new_same, Heap.next_new, Heap.next_set, Heap.next_del, Heap.new_set, extractD, lit1, lit2, lit3, keptD, boxR, Int.reduceToNat, Int.reduceLE, Int.reduceLT,  D.one, D.pub1, List.take_succ_cons, D.cells, splice, List.take_zero, List.length_cons, List.length_nil, Nat.reduceAdd, Nat.reduceLeDiff, List.drop_nil, List.append_nil, Nat.le_refl]
            rw [c3] at hp
            exact ⟨k + 1, ⟨by omega, by simpa using hp, wrap64_succ (by omega)⟩, by omega⟩
          · simp -dsimp only [h26, h25, h24, h0, h1', encLL, hlt, hx, c3, ↓preB, postB, ↓reduceIte, upd_apply, Nat.reduceEqDiff, List.map_cons, List.map_nil, Option.map_some, Option.map_none, List.cons_append, List.nil_append, List.getD_cons_zero, List.getD_cons_succ, gt_iff_lt, ge_iff_le, decide_eq_true_eq, decide_eq_false_iff_not, intBin, strBin, unD, retQ_ret, retQ_normal, List.getElem?_drop, List.getElem?_map, Nat.add_zero, Nat.zero_add, Int.toNat_natCast, Int.ofNat_lt, List.length_map, List.length_drop, and_true, true_and, D.int.injEq, D.str.injEq, D.bool.injEq, true_implies, implies_true, Int.natCast_nonneg, Option.some.injEq, exists_eq_left, exists_eq_left', Bool.false_eq_true, Bool.true_eq_false, decide_true, decide_false, not_true_eq_false, not_false_eq_true, Bool.not_true, Bool.not_false, List.getElem?_cons_zero, List.getElem?_cons_succ, List.drop_zero, List.drop_succ_cons, Bool.not_eq_true, Heap.set_same, Heap.set_set, Heap.new_same, Heap.next_new, Heap.next_set, Heap.next_del, Heap.new_set, extractD, lit1, lit2, lit3, keptD, boxR, Int.reduceToNat, Int.reduceLE, Int.reduceLT,  D.one, D.pub1, List.take_succ_cons, D.cells, splice, List.take_zero, List.length_cons, List.length_nil, Nat.reduceAdd, Nat.reduceLeDiff, List.drop_nil, List.append_nil, Nat.le_refl]
            rw [c3] at hp
            simp only [if_true] at hp
            have hne : (badLL l != 0) = true := by rw [← hp]; exact c3
            rw [hR, hne]
            simp only [if_true]
            rw [← hp]
            exact Ret.less (HLe.refl _) hcl (.tup2 (.sl .nil .no 0 [] [] (.inl rfl) rfl (fun i h => by cases h)) (.refl _)) (.tup2 (.no (by simp)) (.int _ _))
        · have hz : badLL l = 0 := by rw [← hp, List.drop_of_length_le hge]; rfl
          have hws := badLL_zero hz
          have hz' : (badLL l != 0) = false := by rw [hz]; rfl
          rw [hR, hz']
          simp only [Bool.false_eq_true, if_false]
          simp -dsimp only [h26, h25, h24, h0, h1', encLL, encT, Nat.not_lt.2 hge, ↓preB, postB, ↓reduceIte, upd_apply, Nat.reduceEqDiff, List.map_cons, List.map_nil, Option.map_some, Option.map_none, List.cons_append, List.nil_append, List.getD_cons_zero, List.getD_cons_succ, gt_iff_lt, ge_iff_le, decide_eq_true_eq, decide_eq_false_iff_not, intBin, strBin, unD, retQ_ret, retQ_normal, List.getElem?_drop, List.getElem?_map, Nat.add_zero, Nat.zero_add, Int.toNat_natCast, Int.ofNat_lt, List.length_map, List.length_drop, and_true, true_and, D.int.injEq, D.str.injEq, D.bool.injEq, true_implies, implies_true, Int.natCast_nonneg, Option.some.injEq, exists_eq_left, exists_eq_left', Bool.false_eq_true, Bool.true_eq_false, decide_true, decide_false, not_true_eq_false, not_false_eq_true, Bool.not_true, Bool.not_false, List.getElem?_cons_zero, List.getElem?_cons_succ, List.drop_zero, List.drop_succ_cons, Bool.not_eq_true, Heap.set_same, Heap.set_set, Heap.new_same, Heap.next_new, Heap.next_set, Heap.next_del, Heap.new_set, extractD, lit1, lit2, lit3, keptD, boxR, Int.reduceToNat, Int.reduceLE, Int.reduceLT,  D.one, D.pub1, List.take_succ_cons, D.cells, splice, List.take_zero, List.length_cons, List.length_nil, Nat.reduceAdd, Nat.reduceLeDiff, List.drop_nil, List.append_nil, Nat.le_refl]
          intro hbigt
          refine ⟨⟨by omega, by omega, by simp only [big]; omega⟩, ?_⟩
          obtain ⟨q, hq⟩ : ∃ q, q = s.next := ⟨_, rfl⟩
          intro _
          refine pwp_loopG (fun (x : Nat × List Int) env s' => x.1 ≤ l.length ∧ covW t (l.drop x.1) x.2 = covW t l (List.replicate t.length 0) ∧ x.2.length = t.length ∧ (∀ c ∈ x.2, 0 ≤ c ∧ c ≤ 60 * x.1) ∧ s' = s.new (.cells 3 (x.2.map (.int .i64))) ∧ env 41 = .int .i64 (x.1:Nat) ∧ env 40 = .int .i64 l.length ∧ env 39 = encLL l ∧ env 0 = encT t ∧ env 10 = .row q 0 t.length (some t.length) 1) (fun x => l.length - x.1) (0, List.replicate t.length 0) ?_ ?_
          · simp only [upd_apply, Nat.reduceEqDiff, if_true, if_false, h0, Int.toNat_natCast, encLL]
            refine ⟨Nat.zero_le _, rfl, by simp, fun c hc => ?_, by rw [List.map_replicate], rfl, trivial, trivial, trivial, by rw [hq]⟩
            obtain ⟨_, rfl⟩ := List.mem_replicate.1 hc
            omega
          · rintro ⟨k, cnt⟩ env s' ⟨hk, hp, hcn, hcb, rfl, h41, h40, h39, h0, h10⟩
            simp only at hk hp hcn hcb h41
            rcases Nat.lt_or_ge k l.length with hlt | hge
            · have hx : l[k]? = some l[k] := List.getElem?_eq_getElem hlt
              have hwl := badW_len (hws _ (List.getElem_mem hlt))
              rw [List.drop_eq_getElem_cons hlt, covW] at hp
              simp -dsimp only [h41, h40, h39, h0, h10, encLL, hlt, hx, ↓preB, postB, ↓reduceIte, upd_apply, Nat.reduceEqDiff, List.map_cons, List.map_nil, Option.map_some, Option.map_none, List.cons_append, List.nil_append, List.getD_cons_zero, List.getD_cons_succ, gt_iff_lt, ge_iff_le, decide_eq_true_eq, decide_eq_false_iff_not, intBin, strBin, unD, retQ_ret, retQ_normal, List.getElem?_drop, List.getElem?_map, Nat.add_zero, Nat.zero_add, Int.toNat_natCast, Int.ofNat_lt, List.length_map, List.length_drop, and_true, true_and, D.int.injEq, D.str.injEq, D.bool.injEq, true_implies, implies_true, Int.natCast_nonneg, Option.some.injEq, exists_eq_left, exists_eq_left', Bool.false_eq_true, Bool.true_eq_false, decide_true, decide_false, not_true_eq_false, not_false_eq_true, Bool.not_true, Bool.not_false, List.getElem?_cons_zero, List.getElem?_cons_succ, List.drop_zero, List.drop_succ_cons, Bool.not_eq_true, Heap.set_same, Heap.set_set, Heap.new_same, Heap.next_new, Heap.next_set, Heap.next_del, Heap.new_set, extractD, lit1, lit2, lit3, keptD, boxR, Int.reduceToNat, Int.reduceLE, Int.reduceLT,  D.one, D.pub1, List.take_succ_cons, D.cells, splice, List.take_zero, List.length_cons, List.length_nil, Nat.reduceAdd, Nat.reduceLeDiff, List.drop_nil, List.append_nil, Nat.le_refl]
              refine ⟨by omega, ?_⟩
              refine pwp_loopG (fun (x : Wd × List Int) env s' => (∃ n, x.1.length ≤ n ∧ n ≤ l[k].length ∧ cntF t n x.1 x.2 = cntF t l[k].length l[k] cnt ∧ x.2.length = t.length ∧ ∀ c ∈ x.2, 0 ≤ c ∧ c + n ≤ 60 * k + l[k].length) ∧ s' = s.new (.cells 3 (x.2.map (.int .i64))) ∧ env 12 = encSS x.1 ∧ env 41 = .int .i64 (k:Nat) ∧ env 40 = .int .i64 l.length ∧ env 39 = encLL l ∧ env 0 = encT t ∧ env 10 = .row q 0 t.length (some t.length) 1) (fun x => x.1.length) (l[k], cnt) ?_ ?_
              · simp only [upd_apply, Nat.reduceEqDiff, if_true, if_false, h41, h40, h39, h0, h10]
                exact ⟨⟨l[k].length, Nat.le_refl _, Nat.le_refl _, rfl, hcn, fun c hc => by have := hcb c hc; constructor <;> omega⟩, trivial, trivial, trivial, trivial, trivial, trivial, trivial⟩
              · rintro ⟨rest, cn⟩ env s' ⟨⟨n, hn, hnw, hq1, hcn2, hcb2⟩, rfl, h12, h41, h40, h39, h0, h10⟩
                simp only at hn hq1 hcn2 hcb2 h12
                by_cases hr : rest = []
                · have hneg : ¬ (0 : Int) < rest.length := by rw [hr]; simp
                  simp -dsimp only [h12, h41, h40, h39, h0, h10, encSS, hneg, ↓preB, postB, ↓reduceIte, upd_apply, Nat.reduceEqDiff, List.map_cons, List.map_nil, Option.map_some, Option.map_none, List.cons_append, List.nil_append, List.getD_cons_zero, List.getD_cons_succ, gt_iff_lt, ge_iff_le, decide_eq_true_eq, decide_eq_false_iff_not, intBin, strBin, unD, retQ_ret, retQ_normal, List.getElem?_drop, List.getElem?_map, Nat.add_zero, Nat.zero_add, Int.toNat_natCast, Int.ofNat_lt, List.length_map, List.length_drop, and_true, true_and, D.int.injEq, D.str.injEq, D.bool.injEq, true_implies, implies_true, Int.natCast_nonneg, Option.some.injEq, exists_eq_left, exists_eq_left', Bool.false_eq_true, Bool.true_eq_false, decide_true, decide_false, not_true_eq_false, not_false_eq_true, Bool.not_true, Bool.not_false, List.getElem?_cons_zero, List.getElem?_cons_succ, List.drop_zero, List.drop_succ_cons, Bool.not_eq_true, Heap.set_same, Heap.set_set, Heap.new_same, Heap.next_new, Heap.next_set, Heap.next_del, Heap.new_set, extractD, lit1, lit2, lit3, keptD, boxR, Int.reduceToNat, Int.reduceLE, Int.reduceLT,  D.one, D.pub1, List.take_succ_cons, D.cells, splice, List.take_zero, List.length_cons, List.length_nil, Nat.reduceAdd, Nat.reduceLeDiff, List.drop_nil, List.append_nil, Nat.le_refl]
                  intros
                  have e1 : cntF t n rest cn = cn := by
                    cases n with
                    | zero => rfl
                    | succ n => simp [cntF, hr]
                  rw [e1] at hq1
                  refine ⟨(k + 1, cn), ⟨by omega, by rw [hq1]; exact hp, hcn2, fun c hc => ?_, rfl, wrap64_succ (by omega)⟩, by simp only; omega⟩
                  have := hcb2 c hc
                  constructor <;> omega
                · have hpos : 0 < rest.length := List.length_pos_iff.2 hr
                  have hpos' : (0 : Int) < rest.length := by omega
                  obtain ⟨hs1, hs2⟩ := stepN_pos h1 hr
                  obtain ⟨n, rfl⟩ : ∃ m, n = m + 1 := ⟨n - 1, by omega⟩
                  have hne : ¬ rest.length = 0 := by omega
                  simp only [cntF, hne, if_false] at hq1
                  simp -dsimp only [h12, h41, h40, h39, h0, h10, encSS, hpos', ↓preB, postB, ↓reduceIte, upd_apply, Nat.reduceEqDiff, List.map_cons, List.map_nil, Option.map_some, Option.map_none, List.cons_append, List.nil_append, List.getD_cons_zero, List.getD_cons_succ, gt_iff_lt, ge_iff_le, decide_eq_true_eq, decide_eq_false_iff_not, intBin, strBin, unD, retQ_ret, retQ_normal, List.getElem?_drop, List.getElem?_map, Nat.add_zero, Nat.zero_add, Int.toNat_natCast, Int.ofNat_lt, List.length_map, List.length_drop, and_true, true_and, D.int.injEq, D.str.injEq, D.bool.injEq, true_implies, implies_true, Int.natCast_nonneg, Option.some.injEq, exists_eq_left, exists_eq_left', Bool.false_eq_true, Bool.true_eq_false, decide_true, decide_false, not_true_eq_false, not_false_eq_true, Bool.not_true, Bool.not_false, List.getElem?_cons_zero, List.getElem?_cons_succ, List.drop_zero, List.drop_succ_cons, Bool.not_eq_true, Heap.set_same, Heap.set_set, Heap.new_same, Heap.next_new, Heap.next_set, Heap.next_del, Heap.new_set, extractD, lit1, lit2, lit3, keptD, boxR, Int.reduceToNat, Int.reduceLE, Int.reduceLT,  D.one, D.pub1, List.take_succ_cons, D.cells, splice, List.take_zero, List.length_cons, List.length_nil, Nat.reduceAdd, Nat.reduceLeDiff, List.drop_nil, List.append_nil, Nat.le_refl]
                  intro hbig2
                  refine Fn.use (step_c t rest hr) ?_
                  cases hf : fitW t rest with
                  | none =>
                    rw [hf] at hq1
                    simp only [bump] at hq1
                    simp -dsimp only [h12, h41, h40, h39, h0, h10, encSS, hpos', optI_none, show ¬ ((0 : Int) ≤ -1) by decide, ↓preB, postB, ↓reduceIte, upd_apply, Nat.reduceEqDiff, List.map_cons, List.map_nil, Option.map_some, Option.map_none, List.cons_append, List.nil_append, List.getD_cons_zero, List.getD_cons_succ, gt_iff_lt, ge_iff_le, decide_eq_true_eq, decide_eq_false_iff_not, intBin, strBin, unD, retQ_ret, retQ_normal, List.getElem?_drop, List.getElem?_map, Nat.add_zero, Nat.zero_add, Int.toNat_natCast, Int.ofNat_lt, List.length_map, List.length_drop, and_true, true_and, D.int.injEq, D.str.injEq, D.bool.injEq, true_implies, implies_true, Int.natCast_nonneg, Option.some.injEq, exists_eq_left, exists_eq_left', Bool.false_eq_true, Bool.true_eq_false, decide_true, decide_false, not_true_eq_false, not_false_eq_true, Bool.not_true, Bool.not_false, List.getElem?_cons_zero, List.getElem?_cons_succ, List.drop_zero, List.drop_succ_cons, Bool.not_eq_true, Heap.set_same, Heap.set_set, Heap.new_same, Heap.next_new, Heap.next_set, Heap.next_del, Heap.new_set, extractD, lit1, lit2, lit3, keptD, boxR, Int.reduceToNat, Int.reduceLE, Int.reduceLT,  D.one, D.pub1, List.take_succ_cons, D.cells, splice, List.take_zero, List.length_cons, List.length_nil, Nat.reduceAdd, Nat.reduceLeDiff, List.drop_nil, List.append_nil, Nat.le_refl]
                    refine ⟨⟨by omega, by omega⟩, (rest.drop (stepN t rest), cn), ⟨⟨n, ?_, by omega, hq1, hcn2, fun c hc => ?_⟩, rfl, encSS_drop rest _ hs2⟩, ?_⟩
                    · simp only [List.length_drop]; omega
                    · have := hcb2 c hc; constructor <;> omega
                    · simp only [List.length_drop]; omega
                  | some j =>
                    have hj := fitW_lt hf
                    have hjc : j < cn.length := by omega
                    have hcj : cn[j]? = some (cn[j]'hjc) := List.getElem?_eq_getElem hjc
                    have hcv := hcb2 _ (List.getElem_mem hjc)
                    have hw : IntKind.i64.wrap (cn[j]'hjc + 1) = cn[j]'hjc + 1 := wrap64_in (by omega) (by omega)
                    have hsp : List.take j (List.map (D.int .i64) cn) ++ [D.int .i64 (cn[j]'hjc + 1)] ++ List.drop (j + 1) (List.map (D.int .i64) cn) = List.map (D.int .i64) (bump cn (some j)) := by
                      rw [splice_one (by simpa using hjc), bump]
                      simp [hjc, List.map_set]
                    rw [hf] at hq1
                    have hnn : (0 : Int) ≤ (j : Int) := by omega
                    simp -dsimp only [h12, h41, h40, h39, h0, h10, encSS, hpos', optI_some, hnn, hj, hq, hcj, hjc, hw, hsp, ↓preB, postB, ↓reduceIte, upd_apply, Nat.reduceEqDiff, List.map_cons, List.map_nil, Option.map_some, Option.map_none, List.cons_append, List.nil_append, List.getD_cons_zero, List.getD_cons_succ, gt_iff_lt, ge_iff_le, decide_eq_true_eq, decide_eq_false_iff_not, intBin, strBin, unD, retQ_ret, retQ_normal, List.getElem?_drop, List.getElem?_map, Nat.add_zero, Nat.zero_add, Int.toNat_natCast, Int.ofNat_lt, List.length_map, List.length_drop, and_true, true_and, D.int.injEq, D.str.injEq, D.bool.injEq, true_implies, implies_true, Int.natCast_nonneg, Option.some.injEq, exists_eq_left, exists_eq_left', Bool.false_eq_true, Bool.true_eq_false, decide_true, decide_false, not_true_eq_false, not_false_eq_true, Bool.not_true, Bool.not_false, List.getElem?_cons_zero, List.getElem?_cons_succ, List.drop_zero, List.drop_succ_cons, Bool.not_eq_true, Heap.set_same, Heap.set_set, Heap.new_same, Heap.next_new, Heap.next_set, Heap.next_del, Heap.new_set, extractD, lit1, lit2, lit3, keptD, boxR, Int.reduceToNat, Int.reduceLE, Int.reduceLT,  D.one, D.pub1, List.take_succ_cons, D.cells, splice, List.take_zero, List.length_cons, List.length_nil, Nat.reduceAdd, Nat.reduceLeDiff, List.drop_nil, List.append_nil, Nat.le_refl]
                    refine ⟨hjc, ⟨by omega, by omega⟩, (rest.drop (stepN t rest), bump cn (some j)), ⟨⟨n, ?_, by omega, hq1, by rw [bump_len]; exact hcn2, fun c hc => ?_⟩, rfl, encSS_drop rest _ hs2⟩, ?_⟩
                    · simp only [List.length_drop]; omega
                    · simp only [bump] at hc
                      rcases List.mem_or_eq_of_mem_set hc with hc | hc
                      · have := hcb2 c hc; constructor <;> omega
                      · rw [hc, List.getD_eq_getElem?_getD, hcj]; simp only [Option.getD_some]; constructor <;> omega
                    · simp only [List.length_drop]; omega
            · rw [List.drop_of_length_le hge, covW] at hp
              simp -dsimp only [h41, h40, h39, h0, h10, encLL, Nat.not_lt.2 hge, ↓preB, postB, ↓reduceIte, upd_apply, Nat.reduceEqDiff, List.map_cons, List.map_nil, Option.map_some, Option.map_none, List.cons_append, List.nil_append, List.getD_cons_zero, List.getD_cons_succ, gt_iff_lt, ge_iff_le, decide_eq_true_eq, decide_eq_false_iff_not, intBin, strBin, unD, retQ_ret, retQ_normal, List.getElem?_drop, List.getElem?_map, Nat.add_zero, Nat.zero_add, Int.toNat_natCast, Int.ofNat_lt, List.length_map, List.length_drop, and_true, true_and, D.int.injEq, D.str.injEq, D.bool.injEq, true_implies, implies_true, Int.natCast_nonneg, Option.some.injEq, exists_eq_left, exists_eq_left', Bool.false_eq_true, Bool.true_eq_false, decide_true, decide_false, not_true_eq_false, not_false_eq_true, Bool.not_true, Bool.not_false, List.getElem?_cons_zero, List.getElem?_cons_succ, List.drop_zero, List.drop_succ_cons, Bool.not_eq_true, Heap.set_same, Heap.set_set, Heap.new_same, Heap.next_new, Heap.next_set, Heap.next_del, Heap.new_set, extractD, lit1, lit2, lit3, keptD, boxR, Int.reduceToNat, Int.reduceLE, Int.reduceLT,  D.one, D.pub1, List.take_succ_cons, D.cells, splice, List.take_zero, List.length_cons, List.length_nil, Nat.reduceAdd, Nat.reduceLeDiff, List.drop_nil, List.append_nil, Nat.le_refl]
              rw [← hp]
              refine Ret.less (HLe.self_new _ hcl) hcl (.tup2 ?_ (.refl _)) (.tup2 (.no (bel_ints _)) (.int _ _))
              simp only [encI, hcn]
              exact Told.rowI (by rw [hq]; exact Heap.new_same _ _) (hcl.none (by omega)) (by simp [hcn])
  · simp -dsimp only [c1, encLL, ↓preB, postB, ↓reduceIte, upd_apply, Nat.reduceEqDiff, List.map_cons, List.map_nil, Option.map_some, Option.map_none, List.cons_append, List.nil_append, List.getD_cons_zero, List.getD_cons_succ, gt_iff_lt, ge_iff_le, decide_eq_true_eq, decide_eq_false_iff_not, intBin, strBin, unD, retQ_ret, retQ_normal, List.getElem?_drop, List.getElem?_map, Nat.add_zero, Nat.zero_add, Int.toNat_natCast, Int.ofNat_lt, List.length_map, List.length_drop, and_true, true_and, D.int.injEq, D.str.injEq, D.bool.injEq, true_implies, implies_true, Int.natCast_nonneg, Option.some.injEq, exists_eq_left, exists_eq_left', Bool.false_eq_true, Bool.true_eq_false, decide_true, decide_false, not_true_eq_false, not_false_eq_true, Bool.not_true, Bool.not_false, List.getElem?_cons_zero, List.getElem?_cons_succ, List.drop_zero, List.drop_succ_cons, Bool.not_eq_true, Heap.set_same, Heap.set_set, Heap.new_same, Heap.next_new, Heap.next_set, Heap.next_del, Heap.new_set, extractD, lit1, lit2, lit3, keptD, boxR, Int.reduceToNat, Int.reduceLE, Int.reduceLT,  D.one, D.pub1, List.take_succ_cons, D.cells, splice, List.take_zero, List.length_cons, List.length_nil, Nat.reduceAdd, Nat.reduceLeDiff, List.drop_nil, List.append_nil, Nat.le_refl]
    simp only [coverR, c1]
    exact Ret.less (HLe.refl _) hcl (.tup2 (.sl .nil .no 0 [] [] (.inl rfl) rfl (fun i h => by cases h)) (.refl _)) (.tup2 (.no (by simp)) (.int _ _))
end Go.Proofs.Ytldlcejlfaogbaa.Vs
