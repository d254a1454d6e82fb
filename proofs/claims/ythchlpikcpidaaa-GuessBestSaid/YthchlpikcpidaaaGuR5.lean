/- numbers of Ythchlpikcpidaaa -/
import Derived.Test.YthchlpikcpidaaaGuR2
import Derived.Test.YthchlpikcpidaaaGuS1
namespace Go.Proofs.Ythchlpikcpidaaa.Vs
set_option linter.unusedVariables false
set_option linter.unusedSimpArgs false
set_option maxRecDepth 100000
theorem takeR_tags {L : List Smp} {y x : Smp} (h : x ∈ takeR L y) : (∃ z ∈ L, z.tag = x.tag) ∨ x.tag = y.tag := by
  unfold takeR at h
  split at h
  · obtain ⟨i, hi, rfl⟩ := List.getElem_of_mem h
    rw [List.length_modify] at hi
    left
    refine ⟨L[i], List.getElem_mem hi, ?_⟩
    rw [List.getElem_modify]
    split <;> rfl
  · rcases List.mem_append.1 h with h | h
    · exact .inl ⟨x, List.mem_of_mem_take h, rfl⟩
    · rcases List.mem_cons.1 h with rfl | h
      · exact .inr rfl
      · exact .inl ⟨x, List.mem_of_mem_drop h, rfl⟩
theorem allR_tags (l : List Smp) : ∀ x ∈ allR l, ∃ y ∈ l, y.tag = x.tag := by
  refine snoc_ind (P := fun l => ∀ x ∈ allR l, ∃ y ∈ l, y.tag = x.tag) (fun x hx => ?_) (fun l y ih x hx => ?_) l
  · exact absurd hx (by simp [allR])
  · rw [allR_snoc] at hx
    rcases takeR_tags hx with ⟨z, hz, e⟩ | e
    · obtain ⟨u, hu, e2⟩ := ih z hz
      exact ⟨u, by simp [hu], e2.trans e⟩
    · exact ⟨y, by simp, e.symm⟩
theorem cnt_tag {R : List Smp} (hm : ∀ x ∈ R, 1 ≤ x.many) {t : ByteArray} (ht : t ≠ noB) : cnt R [] t ≠ 0 ↔ t ∈ tagL R := by
  have htb : (t == noB) = false := by
    cases h : (t == noB) with
    | false => rfl
    | true => exact absurd (ba_eq h) ht
  induction R with
  | nil => simp [cnt, tagL]
  | cons x R ih =>
    have ih := ih fun y hy => hm y (List.mem_cons_of_mem _ hy)
    have h1 := hm x List.mem_cons_self
    have h2 : 0 ≤ cnt R [] t := cnt_nonneg _ _ fun y hy => hm y (List.mem_cons_of_mem _ hy)
    have ho : one [] t x = if (t == x.tag) = true then x.many else 0 := by simp only [one, hit, isEnd_nil, htb, Bool.false_or, Bool.true_and]
    simp only [cnt, tagL, List.map_cons, List.mem_cons]
    rw [ho]
    cases hx : (t == x.tag) with
    | true =>
      have e := ba_eq hx
      simp only [if_true]
      exact ⟨fun _ => .inl e, fun _ => by omega⟩
    | false =>
      simp only [Bool.false_eq_true, if_false, Int.zero_add]
      exact ⟨fun h => .inr (ih.1 h), fun h => h.elim (fun e => by rw [e, ba_refl] at hx; cases hx) ih.2⟩
section
variable {l : List Smp} (hl : ∀ x ∈ l, fineS x) (ht : tot l ≤ 1000)
include hl
theorem key_eq {w : Wd} (hw : goodW w) {t : ByteArray} (htn : t ≠ noB) : chV (aF (cfL l) t) (aF (cfL l) noB) w = chV (fun e => tagV (allR l) e t) (fun e => cnt (allR l) e noB) w := by
  have c3a : ¬ (t == noB) = true := fun h => htn (ba_eq h)
  have hval : ∀ e : Wd, goodW e → e.length ≤ 4 → aF (cfL l) t e = tagV (allR l) e t ∧ aF (cfL l) noB e = cnt (allR l) e noB := fun e he h4 => by
    rw [aF, aF, cfL_val hl he h4, cfL_val hl he h4, tagV, if_neg c3a, countV, if_pos h4, cnt_allR, cnt_allR]
    exact ⟨rfl, rfl⟩
  unfold chV
  obtain ⟨v1, v2⟩ := hval [] ⟨by simp, by simp, by simp⟩ (by simp)
  rw [v1, v2]
  exact chF_congr _ _ _ _ fun j hj hj2 => hval _ (hw.drop _) (by rw [suf_len (by omega)]; omega)
include ht
theorem rank_ref {w : Wd} (hw : goodW w) {O U : List ByteArray} (hD : DedOf (sortB (tagL (allR l))) (allR l).length O) (hp : U.Perm O) (hs : U.Pairwise (ltG (keyR (allR l) w))) : RankOf (cfL l) w U := by
  have hm1 : ∀ x ∈ l, 1 ≤ x.many := fun x hx => (hl x hx).2.2
  have hFR : Fine (allR l) := allR_fine hm1 ht
  have hmem : ∀ t, t ∈ U ↔ (t ≠ noB ∧ cfL l noB t ≠ 0) := fun t => by
    have hlen : (sortB (tagL (allR l))).length = (allR l).length := by rw [(sortB_perm _).length_eq]; simp [tagL]
    rw [hp.mem_iff, hD.mem, List.take_of_length_le (by omega), (sortB_perm _).mem_iff, cf_tag hl, ← cnt_allR]
    constructor
    · intro h
      have htn : t ≠ noB := by
        obtain ⟨x, hx, rfl⟩ := List.mem_map.1 h
        obtain ⟨y, hy, e⟩ := allR_tags l x hx
        rw [← e]
        exact nm_ne (hl y hy).2.1
      exact ⟨htn, (cnt_tag hFR.1 htn).2 h⟩
    · rintro ⟨h1, h2⟩
      exact (cnt_tag hFR.1 h1).1 h2
  refine ⟨List.Pairwise.imp_of_mem (fun {a b} ha hb h => ?_) hs, hmem⟩
  have ka : keyR (allR l) w a = keyT (cfL l) w a := by rw [keyR, keyT, key_eq hl hw ((hmem a).1 ha).1]
  have kb : keyR (allR l) w b = keyT (cfL l) w b := by rw [keyR, keyT, key_eq hl hw ((hmem b).1 hb).1]
  unfold ltG at h
  rw [ka, kb] at h
  exact h
end
def denT (cf : CF) (w : Wd) (t : ByteArray) : Int := (chV (aF cf t) (aF cf noB) w).2
theorem Sure_p (w : Wd) (q : Nat) (mf : ByteArray × ByteArray → Int) (cf : CF) (hn : Nice cf) (hbig : Big5 cf) (σ0 σ : Heap) (h : PG σ0 mf cf q σ) (ht : cf noB noB ≠ 0 → ∃ t, t ≠ noB ∧ cf noB t ≠ 0) :
    PCall Zs 19 [.ptr q 0, encSS w] σ (fun d τ => τ = σ ∧ ((badW w ≠ 0 ∧ d = .tup [.str noB, .bool false, .int .i64 (badW w)]) ∨ (badW w = 0 ∧ cf noB noB = 0 ∧ d = .tup [.str noB, .bool false, .int .i64 4]) ∨ (badW w = 0 ∧ cf noB noB ≠ 0 ∧ ∃ L, RankOf cf w L ∧ ∃ h0 : 0 < L.length, d = .tup [.str L[0], .bool (decide (denT cf w L[0] < (2 : Int) * keyT cf w L[0])), .int .i64 0]))) := by
  refine pcall_of (Z := Zs) ok19 fun hcl hbl => ?_
  simp -dsimp only [L19, ↓preB, postB, genB, ↓reduceIte, Nat.reduceEqDiff, Int.reduceToNat, Int.reduceLE, Int.reduceLT, Nat.reduceAdd, Nat.reduceLeDiff, intBin, strBin, unD, extractD, lit1, lit2, lit3, keptD, boxR, D.one, D.pub1, D.cells, splice, cutOwn]
  refine PCall.use (Rank_p w q mf cf hn hbig σ0 σ h ht) ?_
  rintro d τ ⟨rfl, ⟨c1, rfl⟩ | ⟨c1, c2, rfl⟩ | ⟨c1, c2, L, hR, hL0, rfl⟩⟩
  · have c1' : (badW w != 0) = true := by simpa using c1
    simp -dsimp only [c1', ↓preB, postB, genB, ↓reduceIte, Nat.reduceEqDiff, Int.reduceToNat, Int.reduceLE, Int.reduceLT, Nat.reduceAdd, Nat.reduceLeDiff, intBin, strBin, unD, extractD, lit1, lit2, lit3, keptD, boxR, D.one, D.pub1, D.cells, splice, cutOwn]
    exact Ret.now (Nat.le_refl _) ⟨rfl, .inl ⟨c1, rfl⟩⟩
  · have e4 : ((4 : Int) != 0) = true := rfl
    simp -dsimp only [e4, ↓preB, postB, genB, ↓reduceIte, Nat.reduceEqDiff, Int.reduceToNat, Int.reduceLE, Int.reduceLT, Nat.reduceAdd, Nat.reduceLeDiff, intBin, strBin, unD, extractD, lit1, lit2, lit3, keptD, boxR, D.one, D.pub1, D.cells, splice, cutOwn]
    exact Ret.now (Nat.le_refl _) ⟨rfl, .inr (.inl ⟨c1, c2, rfl⟩)⟩
  · have e0 : ((0 : Int) != 0) = false := rfl
    have hlp : 0 < L.length := List.length_pos_iff.2 hL0
    have hlpi : (0 : Int) < (L.length : Int) := by omega
    have hg : L[0]? = some L[0] := List.getElem?_eq_getElem hlp
    obtain ⟨b0, b1, b2, b3⟩ := ch_bound hn w L[0]
    have wm : IntKind.i64.wrap ((2 : Int) * keyT cf w L[0]) = (2 : Int) * keyT cf w L[0] := by
      unfold keyT
      rw [wrap64_in (by omega) (by omega)]
    simp -dsimp only [e0, encSS, hlp, hlpi, hg, List.getElem?_map, ↓preB, postB, genB, ↓reduceIte, Nat.reduceEqDiff, Int.reduceToNat, Int.reduceLE, Int.reduceLT, Nat.reduceAdd, Nat.reduceLeDiff, intBin, strBin, unD, extractD, lit1, lit2, lit3, keptD, boxR, D.one, D.pub1, D.cells, splice, cutOwn]
    refine PCall.use (chance_c w L[0] (badW_good c1) q mf cf hn σ0 τ h) ?_
    rintro _ _ ⟨rfl, rfl⟩
    rename_i τ
    have f0 : ∀ o, (τ.new o).get τ.next = some o := fun o => Heap.new_same _ _
    simp -dsimp only [↓preB, postB, genB, ↓reduceIte, Nat.reduceEqDiff, Int.reduceToNat, Int.reduceLE, Int.reduceLT, Nat.reduceAdd, Nat.reduceLeDiff, intBin, strBin, unD, extractD, lit1, lit2, lit3, keptD, boxR, D.one, D.pub1, D.cells, splice, cutOwn]
    refine draw_p _ rfl rfl rfl rfl ?_
    simp only [List.filterMap_cons, List.filterMap_nil, List.getElem?_cons_succ, List.getElem?_cons_zero, pOps, keepKind, hfKind, Bool.or_false, Bool.or_true, Bool.false_eq_true, if_true, if_false]
    simp -dsimp only [f0, hlp, hlpi, hg, List.getElem?_map, ↓preB, postB, genB, ↓reduceIte, Nat.reduceEqDiff, Int.reduceToNat, Int.reduceLE, Int.reduceLT, Nat.reduceAdd, Nat.reduceLeDiff, intBin, strBin, unD, extractD, lit1, lit2, lit3, keptD, boxR, D.one, D.pub1, D.cells, splice, cutOwn]
    refine Ret.told τ _ (Nat.le_refl _) (HLe.self_new _ hcl) hcl (.refl _) (.tup3 (.str _) (.bool _) (.int _ _)) ⟨rfl, .inr (.inr ⟨c1, c2, L, hR, hlp, ?_⟩)⟩
    unfold keyT at wm
    rw [wm]
    rfl
theorem refSure_p (L : List Smp) (q : Nat) (w : Wd) (hL : L.length ≤ 100000) (hF : Fine L) (σ : Heap) (h : RGat L q σ) :
    PCall Zs 20 [.ptr q 0, encSS w] σ (fun d τ => τ = σ ∧ ((askE (decide (L = [])) [w] ≠ 0 ∧ d = .tup [.str noB, .bool false, .int .i64 (askE (decide (L = [])) [w])]) ∨
      (askE (decide (L = [])) [w] = 0 ∧ ∃ O U : List ByteArray, DedOf (sortB (tagL L)) L.length O ∧ U.Perm O ∧ U.Pairwise (ltG (keyR L w)) ∧ ∃ h0 : 0 < U.length, d = .tup [.str U[0], .bool (decide ((chV (fun e => tagV L e U[0]) (fun e => cnt L e noB) w).2 < (2 : Int) * keyR L w U[0])), .int .i64 0]))) := by
  refine pcall_of (Z := Zs) ok20 fun hcl hbl => ?_
  simp -dsimp only [L20, ↓preB, postB, genB, ↓reduceIte, Nat.reduceEqDiff, Int.reduceToNat, Int.reduceLE, Int.reduceLT, Nat.reduceAdd, Nat.reduceLeDiff, intBin, strBin, unD, extractD, lit1, lit2, lit3, keptD, boxR, D.one, D.pub1, D.cells, splice, cutOwn]
  refine PCall.use (refRank_p L q w hL hF σ h) ?_
  rintro d τ ⟨rfl, ⟨c1, rfl⟩ | ⟨c1, O, U, hD, hp, hs, rfl⟩⟩
  · have c1' : (askE (decide (L = [])) [w] != 0) = true := by simpa using c1
    simp -dsimp only [c1', ↓preB, postB, genB, ↓reduceIte, Nat.reduceEqDiff, Int.reduceToNat, Int.reduceLE, Int.reduceLT, Nat.reduceAdd, Nat.reduceLeDiff, intBin, strBin, unD, extractD, lit1, lit2, lit3, keptD, boxR, D.one, D.pub1, D.cells, splice, cutOwn]
    exact Ret.now (Nat.le_refl _) ⟨rfl, .inl ⟨c1, rfl⟩⟩
  · have e0 : ((0 : Int) != 0) = false := rfl
    have hne : L ≠ [] := fun e => by
      subst e
      revert c1
      unfold askE
      split
      · exact fun h1 => absurd h1 ‹_›
      · intro h1; cases h1
    have hlp : 0 < U.length := by
      have h1 : tagL L ≠ [] := fun e => hne (List.eq_nil_of_length_eq_zero (by have := congrArg List.length e; simpa [tagL] using this))
      obtain ⟨t, htm⟩ := List.exists_mem_of_ne_nil _ h1
      have hlen : (sortB (tagL L)).length = L.length := by rw [(sortB_perm _).length_eq]; simp [tagL]
      have : t ∈ U := by rw [hp.mem_iff, hD.mem, List.take_of_length_le (by omega), (sortB_perm _).mem_iff]; exact htm
      exact List.length_pos_iff.2 (List.ne_nil_of_mem this)
    have hlpi : (0 : Int) < (U.length : Int) := by omega
    have hg : U[0]? = some U[0] := List.getElem?_eq_getElem hlp
    have hb := chF_bound (a := fun e => tagV L e U[0]) (b := fun e => cnt L e noB) (w := w) (fun e => tag_ok hF e U[0]) (min w.length 4) 1 (tagV L [] U[0]) (cnt L [] noB) (by omega) (tag_ok hF [] U[0]).1 (tag_ok hF [] U[0]).2.1 (Int.le_trans (tag_ok hF [] U[0]).2.2 (by decide))
    have hb' : 0 ≤ (chV (fun e => tagV L e U[0]) (fun e => cnt L e noB) w).1 ∧ (chV (fun e => tagV L e U[0]) (fun e => cnt L e noB) w).1 ≤ (chV (fun e => tagV L e U[0]) (fun e => cnt L e noB) w).2 ∧ (chV (fun e => tagV L e U[0]) (fun e => cnt L e noB) w).2 ≤ 1005010010005001 := ⟨hb.1, hb.2.1, hb.2.2.1⟩
    have wm : IntKind.i64.wrap ((2 : Int) * (chV (fun e => tagV L e U[0]) (fun e => cnt L e noB) w).1) = (2 : Int) * (chV (fun e => tagV L e U[0]) (fun e => cnt L e noB) w).1 := by
      rw [wrap64_in (by omega) (by omega)]
    simp -dsimp only [e0, encSS, hlp, hlpi, hg, List.getElem?_map, ↓preB, postB, genB, ↓reduceIte, Nat.reduceEqDiff, Int.reduceToNat, Int.reduceLE, Int.reduceLT, Nat.reduceAdd, Nat.reduceLeDiff, intBin, strBin, unD, extractD, lit1, lit2, lit3, keptD, boxR, D.one, D.pub1, D.cells, splice, cutOwn]
    refine PCall.use (refchance_c L q w U[0] hL hF τ h) ?_
    rintro _ _ ⟨rfl, rfl⟩
    simp -dsimp only [e0, encSS, hlp, hlpi, hg, wm, List.getElem?_map, ↓preB, postB, genB, ↓reduceIte, Nat.reduceEqDiff, Int.reduceToNat, Int.reduceLE, Int.reduceLT, Nat.reduceAdd, Nat.reduceLeDiff, intBin, strBin, unD, extractD, lit1, lit2, lit3, keptD, boxR, D.one, D.pub1, D.cells, splice, cutOwn]
    exact Ret.now (Nat.le_refl _) ⟨rfl, .inr ⟨c1, O, U, hD, hp, hs, hlp, rfl⟩⟩
end Go.Proofs.Ythchlpikcpidaaa.Vs
