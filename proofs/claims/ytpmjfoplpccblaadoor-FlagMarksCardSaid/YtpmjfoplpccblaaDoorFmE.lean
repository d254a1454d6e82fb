/- numbers of YtpmjfoplpccblaaDoor -/
import Derived.Test.YtpmjfoplpccblaaDoorFmD
namespace Go.Proofs.YtpmjfoplpccblaaDoor.Vs
set_option linter.unusedVariables false
set_option linter.unusedSimpArgs false
set_option maxRecDepth 100000
theorem refIs_c (l : List UInt8) (hs : l.length ≤ 100000) : Fn Zs 7 [.str (toB l)] (.bool (isMk l)) := by
  refine fn_of (Z := Zs) ok7 fun σ hcl hbl => ?_
  simp -dsimp only [L7, ↓preB, postB, genB, ↓reduceIte, Nat.reduceEqDiff, Int.reduceToNat, Int.reduceLE, Int.reduceLT, Nat.reduceAdd, Nat.reduceLeDiff, intBin, strBin, unD, extractD, lit1, lit2, lit3, keptD, boxR, D.one, D.pub1, D.cells, splice, cutOwn]
  refine Fn.use (markOf_c l hs) ?_
  cases h : isMk l
  · have e : rfV l = .agg [.int .u8 0, .str ⟨#[]⟩, .str ⟨#[]⟩, .bool false] := by unfold rfV; rw [h]; rfl
    rw [e]
    simp -dsimp only [List.getElem?_cons_zero, List.getElem?_cons_succ, ↓preB, postB, genB, ↓reduceIte, Nat.reduceEqDiff, Int.reduceToNat, Int.reduceLE, Int.reduceLT, Nat.reduceAdd, Nat.reduceLeDiff, intBin, strBin, unD, extractD, lit1, lit2, lit3, keptD, boxR, D.one, D.pub1, D.cells, splice, cutOwn]
    exact Ret.is rfl
  · have e : rfV l = .agg [.int .u8 ((l.getD 1 0).toNat : Int), .str (toB (headL 46 (midL l))), .str (toB (tailL 46 (midL l))), .bool true] := by unfold rfV; rw [h]; rfl
    rw [e]
    simp -dsimp only [List.getElem?_cons_zero, List.getElem?_cons_succ, ↓preB, postB, genB, ↓reduceIte, Nat.reduceEqDiff, Int.reduceToNat, Int.reduceLE, Int.reduceLT, Nat.reduceAdd, Nat.reduceLeDiff, intBin, strBin, unD, extractD, lit1, lit2, lit3, keptD, boxR, D.one, D.pub1, D.cells, splice, cutOwn]
    exact Ret.is rfl
def isS (s : ByteArray) : Bool := isMk s.data.toList
theorem Is_s (s : ByteArray) (hs : s.size ≤ 100000) : Fn Zs 6 [.str s] (.bool (isS s)) := by
  have := Is_c s.data.toList (by simpa using hs)
  rw [toB_of] at this
  exact this
theorem refIs_s (s : ByteArray) (hs : s.size ≤ 100000) : Fn Zs 7 [.str s] (.bool (isS s)) := by
  have := refIs_c s.data.toList (by simpa using hs)
  rw [toB_of] at this
  exact this
theorem told_nilS {σ τ : Heap} : Told σ τ (.sl .nil 0 []) (encSS []) := .sl .nil .no 0 [] [] (.inl rfl) rfl (fun i h => by cases h)
theorem sorted_c (w : Wd) (hw : w.length ≤ 100000) (hs : ∀ s ∈ w, s.size ≤ 100000) : Fn Zs 16 [encSS w, .bool true] (encSS (w.filter isS)) := by
  refine fn_of (Z := Zs) ok16 fun σ hcl hbl => ?_
  simp -dsimp only [L16, encSS, ↓preB, postB, genB, ↓reduceIte, Nat.reduceEqDiff, Int.reduceToNat, Int.reduceLE, Int.reduceLT, Nat.reduceAdd, Nat.reduceLeDiff, intBin, strBin, unD, extractD, lit1, lit2, lit3, keptD, boxR, D.one, D.pub1, D.cells, splice, cutOwn]
  refine pwp_loopG (fun k env s => k ≤ w.length ∧ Acc 9 1 σ ((w.take k).filter isS).length (((w.take k).filter isS).map .str) (env 5) s ∧ env 6 = .int .i64 (k:Nat) ∧ env 0 = encSS w ∧ env 1 = .bool true) (fun k => w.length - k) 0 ?_ ?_
  · simp only [upd_apply, envOf_apply, encSS, Nat.reduceEqDiff, if_true, if_false]
    exact ⟨Nat.zero_le _, Acc.nil (HLe.refl _), rfl, rfl, rfl⟩
  · rintro k env s ⟨hk, hA, h6, h0, h1⟩
    rcases Nat.lt_or_ge k w.length with hlt | hge
    · have hx : w[k]? = some w[k] := List.getElem?_eq_getElem hlt
      have hlp : 0 < w.length := by omega
      have hn : (k : Int) < w.length := by omega
      have hfl : ((w.take k).filter isS).length ≤ k := Nat.le_trans (List.length_filter_le _ _) (List.length_take_le _ _)
      have hnx : (w.take (k + 1)).filter isS = (w.take k).filter isS ++ (if isS w[k] = true then [w[k]] else []) := by
        rw [List.take_succ_eq_append_getElem hlt, List.filter_append]
        congr 1
        cases hb : isS w[k] <;> simp [hb]
      simp -dsimp only [h6, h0, h1, encSS, hlt, hx, hlp, hn, ↓preB, postB, genB, ↓reduceIte, Nat.reduceEqDiff, Int.reduceToNat, Int.reduceLE, Int.reduceLT, Nat.reduceAdd, Nat.reduceLeDiff, intBin, strBin, unD, extractD, lit1, lit2, lit3, keptD, boxR, D.one, D.pub1, D.cells, splice, cutOwn]
      intros
      refine Fn.use (refIs_s w[k] (hs _ (List.getElem_mem hlt))) ?_
      cases hb : isS w[k]
      · rw [hb, if_neg (by decide), List.append_nil] at hnx
        simp -dsimp only [h6, h0, h1, encSS, hlt, hx, hlp, hn, hb, show (false == true) = false from rfl, ↓preB, postB, genB, ↓reduceIte, Nat.reduceEqDiff, Int.reduceToNat, Int.reduceLE, Int.reduceLT, Nat.reduceAdd, Nat.reduceLeDiff, intBin, strBin, unD, extractD, lit1, lit2, lit3, keptD, boxR, D.one, D.pub1, D.cells, splice, cutOwn]
        exact ⟨k + 1, ⟨by omega, by rw [hnx]; exact hA, wrap64_succ (by simp only [big]; omega)⟩, by omega⟩
      · rw [hb, if_pos rfl] at hnx
        simp -dsimp only [h6, h0, h1, encSS, hlt, hx, hlp, hn, hb, show (true == true) = true from rfl, ↓preB, postB, genB, ↓reduceIte, Nat.reduceEqDiff, Int.reduceToNat, Int.reduceLE, Int.reduceLT, Nat.reduceAdd, Nat.reduceLeDiff, intBin, strBin, unD, extractD, lit1, lit2, lit3, keptD, boxR, D.one, D.pub1, D.cells, splice, cutOwn]
        refine hA.append hcl tz22 rfl tz9 rfl rfl rfl (by decide) (by simp) (fedBy_sl (m := 1) tz22 rfl (by simp)) (by simp only []; omega) (by simp only [big]; omega) fun d' s' hA' => ?_
        simp -dsimp only [h6, h0, h1, ↓preB, postB, genB, ↓reduceIte, Nat.reduceEqDiff, Int.reduceToNat, Int.reduceLE, Int.reduceLT, Nat.reduceAdd, Nat.reduceLeDiff, intBin, strBin, unD, extractD, lit1, lit2, lit3, keptD, boxR, D.one, D.pub1, D.cells, splice, cutOwn]
        refine ⟨k + 1, ⟨by omega, ?_, wrap64_succ (by simp only [big]; omega)⟩, by omega⟩
        rw [hnx]
        simpa using hA'
    · have hn : ¬ (k : Int) < w.length := by omega
      rw [show k = w.length by omega, List.take_length] at hA
      simp -dsimp only [h6, h0, h1, encSS, hn, ↓preB, postB, genB, ↓reduceIte, Nat.reduceEqDiff, Int.reduceToNat, Int.reduceLE, Int.reduceLT, Nat.reduceAdd, Nat.reduceLeDiff, intBin, strBin, unD, extractD, lit1, lit2, lit3, keptD, boxR, D.one, D.pub1, D.cells, splice, cutOwn]
      intros
      exact Ret.less hA.le hcl hA.told (.no (bel_strs _))
def mkR (w : Wd) : Wd × Int := if badS w ≠ 0 then ([], badS w) else (w.filter isS, 0)
theorem refMarks_c (w : Wd) (hw : w.length ≤ 100000) (hs : ∀ s ∈ w, s.size ≤ 100000) : Fn Zs 9 [encSS w] (.tup [encSS (mkR w).1, .int .i64 (mkR w).2]) := by
  refine fn_of (Z := Zs) ok9 fun σ hcl hbl => ?_
  simp -dsimp only [L9, ↓preB, postB, genB, ↓reduceIte, Nat.reduceEqDiff, Int.reduceToNat, Int.reduceLE, Int.reduceLT, Nat.reduceAdd, Nat.reduceLeDiff, intBin, strBin, unD, extractD, lit1, lit2, lit3, keptD, boxR, D.one, D.pub1, D.cells, splice, cutOwn]
  refine Fn.use (refValidateS_c w hw) ?_
  cases ca : (badS w != 0)
  case true =>
    have c' : badS w ≠ 0 := by simpa using ca
    simp -dsimp only [ca, ↓preB, postB, genB, ↓reduceIte, Nat.reduceEqDiff, Int.reduceToNat, Int.reduceLE, Int.reduceLT, Nat.reduceAdd, Nat.reduceLeDiff, intBin, strBin, unD, extractD, lit1, lit2, lit3, keptD, boxR, D.one, D.pub1, D.cells, splice, cutOwn]
    rw [mkR, if_pos c']
    exact Ret.less (HLe.refl _) hcl (.tup2 told_nilS (.refl _)) (.tup2 (.no (by simp)) (.int _ _))
  have c' : ¬ badS w ≠ 0 := by simpa using ca
  simp -dsimp only [ca, ↓preB, postB, genB, ↓reduceIte, Nat.reduceEqDiff, Int.reduceToNat, Int.reduceLE, Int.reduceLT, Nat.reduceAdd, Nat.reduceLeDiff, intBin, strBin, unD, extractD, lit1, lit2, lit3, keptD, boxR, D.one, D.pub1, D.cells, splice, cutOwn]
  refine Fn.use (sorted_c w hw hs) ?_
  simp -dsimp only [↓preB, postB, genB, ↓reduceIte, Nat.reduceEqDiff, Int.reduceToNat, Int.reduceLE, Int.reduceLT, Nat.reduceAdd, Nat.reduceLeDiff, intBin, strBin, unD, extractD, lit1, lit2, lit3, keptD, boxR, D.one, D.pub1, D.cells, splice, cutOwn]
  exact Ret.is (by rw [mkR, if_neg c'])
theorem Marks_c (w : Wd) (hw : w.length ≤ 100000) (hs : ∀ s ∈ w, s.size ≤ 100000) : Fn Zs 8 [encSS w] (.tup [encSS (mkR w).1, .int .i64 (mkR w).2]) := by
  refine fn_of (Z := Zs) ok8 fun σ hcl hbl => ?_
  simp -dsimp only [L8, ↓preB, postB, genB, ↓reduceIte, Nat.reduceEqDiff, Int.reduceToNat, Int.reduceLE, Int.reduceLT, Nat.reduceAdd, Nat.reduceLeDiff, intBin, strBin, unD, extractD, lit1, lit2, lit3, keptD, boxR, D.one, D.pub1, D.cells, splice, cutOwn]
  refine Fn.use (symsValidate_c w hw) ?_
  cases ca : (badS w != 0)
  case true =>
    have c' : badS w ≠ 0 := by simpa using ca
    simp -dsimp only [ca, ↓preB, postB, genB, ↓reduceIte, Nat.reduceEqDiff, Int.reduceToNat, Int.reduceLE, Int.reduceLT, Nat.reduceAdd, Nat.reduceLeDiff, intBin, strBin, unD, extractD, lit1, lit2, lit3, keptD, boxR, D.one, D.pub1, D.cells, splice, cutOwn]
    rw [mkR, if_pos c']
    exact Ret.less (HLe.refl _) hcl (.tup2 told_nilS (.refl _)) (.tup2 (.no (by simp)) (.int _ _))
  have c' : ¬ badS w ≠ 0 := by simpa using ca
  simp -dsimp only [ca, encSS, ↓preB, postB, genB, ↓reduceIte, Nat.reduceEqDiff, Int.reduceToNat, Int.reduceLE, Int.reduceLT, Nat.reduceAdd, Nat.reduceLeDiff, intBin, strBin, unD, extractD, lit1, lit2, lit3, keptD, boxR, D.one, D.pub1, D.cells, splice, cutOwn]
  intro _
  rw [mkR, if_neg c']
  refine pwp_loopG (fun k env s => k ≤ w.length ∧ Acc 9 1 σ ((w.take k).filter isS).length (((w.take k).filter isS).map .str) (env 5) s ∧ env 15 = .int .i64 (k:Nat) ∧ env 14 = .int .i64 w.length ∧ env 13 = encSS w) (fun k => w.length - k) 0 ?_ ?_
  · simp only [upd_apply, envOf_apply, encSS, Nat.reduceEqDiff, if_true, if_false]
    refine ⟨Nat.zero_le _, Acc.nil (HLe.refl _), ?_⟩
    simp
  · rintro k env s ⟨hk, hA, h15, h14, h13⟩
    rcases Nat.lt_or_ge k w.length with hlt | hge
    · have hx : w[k]? = some w[k] := List.getElem?_eq_getElem hlt
      have hlp : 0 < w.length := by omega
      have hn : (k : Int) < w.length := by omega
      have hfl : ((w.take k).filter isS).length ≤ k := Nat.le_trans (List.length_filter_le _ _) (List.length_take_le _ _)
      have hnx : (w.take (k + 1)).filter isS = (w.take k).filter isS ++ (if isS w[k] = true then [w[k]] else []) := by
        rw [List.take_succ_eq_append_getElem hlt, List.filter_append]
        congr 1
        cases hb : isS w[k] <;> simp [hb]
      simp -dsimp only [h15, h14, h13, encSS, hlt, hx, hlp, hn, ↓preB, postB, genB, ↓reduceIte, Nat.reduceEqDiff, Int.reduceToNat, Int.reduceLE, Int.reduceLT, Nat.reduceAdd, Nat.reduceLeDiff, intBin, strBin, unD, extractD, lit1, lit2, lit3, keptD, boxR, D.one, D.pub1, D.cells, splice, cutOwn]
      refine Fn.use (Is_s w[k] (hs _ (List.getElem_mem hlt))) ?_
      cases hb : isS w[k]
      · rw [hb, if_neg (by decide), List.append_nil] at hnx
        simp -dsimp only [h15, h14, h13, encSS, hlt, hx, hlp, hn, hb, ↓preB, postB, genB, ↓reduceIte, Nat.reduceEqDiff, Int.reduceToNat, Int.reduceLE, Int.reduceLT, Nat.reduceAdd, Nat.reduceLeDiff, intBin, strBin, unD, extractD, lit1, lit2, lit3, keptD, boxR, D.one, D.pub1, D.cells, splice, cutOwn]
        exact ⟨k + 1, ⟨by omega, by rw [hnx]; exact hA, wrap64_succ (by simp only [big]; omega)⟩, by omega⟩
      · rw [hb, if_pos rfl] at hnx
        simp -dsimp only [h15, h14, h13, encSS, hlt, hx, hlp, hn, hb, ↓preB, postB, genB, ↓reduceIte, Nat.reduceEqDiff, Int.reduceToNat, Int.reduceLE, Int.reduceLT, Nat.reduceAdd, Nat.reduceLeDiff, intBin, strBin, unD, extractD, lit1, lit2, lit3, keptD, boxR, D.one, D.pub1, D.cells, splice, cutOwn]
        refine hA.append hcl tz22 rfl tz9 rfl rfl rfl (by decide) (by simp) (fedBy_sl (m := 1) tz22 rfl (by simp)) (by simp only []; omega) (by simp only [big]; omega) fun d' s' hA' => ?_
        simp -dsimp only [h15, h14, h13, ↓preB, postB, genB, ↓reduceIte, Nat.reduceEqDiff, Int.reduceToNat, Int.reduceLE, Int.reduceLT, Nat.reduceAdd, Nat.reduceLeDiff, intBin, strBin, unD, extractD, lit1, lit2, lit3, keptD, boxR, D.one, D.pub1, D.cells, splice, cutOwn]
        refine ⟨k + 1, ⟨by omega, ?_, wrap64_succ (by simp only [big]; omega)⟩, by omega⟩
        rw [hnx]
        simpa using hA'
    · have hn : ¬ (k : Int) < w.length := by omega
      rw [show k = w.length by omega, List.take_length] at hA
      simp -dsimp only [h15, h14, h13, encSS, hn, Nat.not_lt.2 hge, ↓preB, postB, genB, ↓reduceIte, Nat.reduceEqDiff, Int.reduceToNat, Int.reduceLE, Int.reduceLT, Nat.reduceAdd, Nat.reduceLeDiff, intBin, strBin, unD, extractD, lit1, lit2, lit3, keptD, boxR, D.one, D.pub1, D.cells, splice, cutOwn]
      exact Ret.less hA.le hcl (.tup2 hA.told (.refl _)) (.tup2 (.no (bel_strs _)) (.int _ _))
end Go.Proofs.YtpmjfoplpccblaaDoor.Vs
