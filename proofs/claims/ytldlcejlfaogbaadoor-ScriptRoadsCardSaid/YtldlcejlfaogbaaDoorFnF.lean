/- Which tables there are, by the program. -/
import Derived.Test.YtldlcejlfaogbaaDoorFnE
namespace Go.Proofs.YtldlcejlfaogbaaDoor.Vs
set_option linter.unusedVariables false
set_option linter.unusedSimpArgs false
set_option maxRecDepth 20000

theorem validate_c (t : List Sh) : Fn Zs 20 [encT t] (.int .i64 (badT t)) := by
  refine fn_of (Z := Zs) ok20 fun σ hcl hbl => ?_
  simp -dsimp only [L20, encT, ↓preB, postB, genB, ↓reduceIte, Nat.reduceEqDiff, Int.reduceToNat, Int.reduceLE, Int.reduceLT, Nat.reduceAdd, Nat.reduceLeDiff, intBin, strBin, unD, extractD, lit1, lit2, lit3, keptD, boxR, D.one, D.pub1, D.cells, splice, cutOwn]
  intro hbig
  by_cases c0 : (24 : Int) < t.length
  · simp -dsimp only [c0, ↓preB, postB, genB, ↓reduceIte, Nat.reduceEqDiff, Int.reduceToNat, Int.reduceLE, Int.reduceLT, Nat.reduceAdd, Nat.reduceLeDiff, intBin, strBin, unD, extractD, lit1, lit2, lit3, keptD, boxR, D.one, D.pub1, D.cells, splice, cutOwn]
    exact Ret.is (by rw [badT, if_pos (by omega)])
  simp -dsimp only [c0, encT, hbig, ↓preB, postB, genB, ↓reduceIte, Nat.reduceEqDiff, Int.reduceToNat, Int.reduceLE, Int.reduceLT, Nat.reduceAdd, Nat.reduceLeDiff, intBin, strBin, unD, extractD, lit1, lit2, lit3, keptD, boxR, D.one, D.pub1, D.cells, splice, cutOwn]
  refine pwp_loopG (fun k env s => k ≤ t.length ∧ firstE (t.drop k) = firstE t ∧ HLe σ s ∧ env 15 = .int .i64 (k:Nat) ∧ env 14 = .int .i64 t.length ∧ env 13 = encT t ∧ env 0 = encT t) (fun k => t.length - k) 0 ?_ ?_
  · simp [upd_apply, envOf_apply, encT, HLe.refl]
  · rintro k env s ⟨hk, hp, hH, h15, h14, h13, h0⟩
    rcases Nat.lt_or_ge k t.length with hlt | hge
    · have hd := rowsD_at hlt
      have hpos : 0 < (rowsD t).length := by rw [rowsD_len]; omega
      rw [List.drop_eq_getElem_cons hlt, firstE] at hp
      simp -dsimp only [h15, h14, h13, h0, encT, encSS, hlt, hd, hpos, hbig, ↓preB, postB, genB, ↓reduceIte, Nat.reduceEqDiff, Int.reduceToNat, Int.reduceLE, Int.reduceLT, Nat.reduceAdd, Nat.reduceLeDiff, intBin, strBin, unD, extractD, lit1, lit2, lit3, keptD, boxR, D.one, D.pub1, D.cells, splice, cutOwn]
      intro hb2
      have hH1 : ∀ o, HLe σ (s.new o) := fun o => hH.new' o hcl
      obtain ⟨l2, hl2⟩ : ∃ l : List Wd, l = [t[k].From, t[k].To] := ⟨_, rfl⟩
      have hlen : l2.length = 2 := by rw [hl2]; rfl
      have hmap : l2.map encSS = [encSS t[k].From, encSS t[k].To] := by rw [hl2]; rfl
      have hrow : ((l2.map badW).find? (fun e => e != 0)).getD 0 = rowE t[k] := by rw [hl2, words2]
      refine pwp_loopG (fun j env' s' => j ≤ 2 ∧ (((l2.drop j).map badW).find? (fun e => e != 0)).getD 0 = rowE t[k] ∧ HLe σ s' ∧ env' 25 = .int .i64 (j:Nat) ∧ env' 24 = .int .i64 2 ∧ env' 23 = .sl .full 2 (l2.map encSS) ∧ env' 15 = .int .i64 (k:Nat) ∧ env' 14 = .int .i64 t.length ∧ env' 13 = encT t ∧ env' 0 = encT t) (fun j => 2 - j) 0 ?_ ?_
      · simp only [upd_apply, Nat.reduceEqDiff, if_true, if_false, h15, h14, h13, h0, hmap]
        exact ⟨by omega, by simpa using hrow, hH1 _, rfl, rfl, rfl, trivial, trivial, trivial, trivial⟩
      · rintro j env' s' ⟨hj, hq, hH', h25, h24, h23, h15, h14, h13, h0⟩
        rcases Nat.lt_or_ge j 2 with hj2 | hj2
        · have hjl : j < l2.length := by omega
          have hx : l2[j]? = some l2[j] := List.getElem?_eq_getElem hjl
          have hj2' : (j : Int) < 2 := by omega
          rw [List.drop_eq_getElem_cons hjl, List.map_cons, List.find?_cons] at hq
          have hlp : 0 < l2.length := by omega
          simp -dsimp only [h25, h24, h23, h15, h14, h13, h0, hj2', hx, hlp, ↓preB, postB, genB, ↓reduceIte, Nat.reduceEqDiff, Int.reduceToNat, Int.reduceLE, Int.reduceLT, Nat.reduceAdd, Nat.reduceLeDiff, intBin, strBin, unD, extractD, lit1, lit2, lit3, keptD, boxR, D.one, D.pub1, D.cells, splice, cutOwn]
          refine ⟨hj2, Fn.use (symsValidateWord_c _) ?_⟩
          cases c1 : (badW l2[j] != 0)
          · simp -dsimp only [h25, h24, h23, h15, h14, h13, h0, hj2', hx, hlp, c1, ↓preB, postB, genB, ↓reduceIte, Nat.reduceEqDiff, Int.reduceToNat, Int.reduceLE, Int.reduceLT, Nat.reduceAdd, Nat.reduceLeDiff, intBin, strBin, unD, extractD, lit1, lit2, lit3, keptD, boxR, D.one, D.pub1, D.cells, splice, cutOwn]
            rw [c1] at hq
            exact ⟨j + 1, ⟨by omega, hq, hH', wrap64_succ (by simp only [big]; omega)⟩, by omega⟩
          · simp -dsimp only [h25, h24, h23, h15, h14, h13, h0, hj2', hx, hlp, c1, ↓preB, postB, genB, ↓reduceIte, Nat.reduceEqDiff, Int.reduceToNat, Int.reduceLE, Int.reduceLT, Nat.reduceAdd, Nat.reduceLeDiff, intBin, strBin, unD, extractD, lit1, lit2, lit3, keptD, boxR, D.one, D.pub1, D.cells, splice, cutOwn]
            rw [c1] at hq
            simp only [Option.getD_some] at hq
            refine Ret.isH hH' hcl ?_ (.int _ _)
            have e1 : (rowE t[k] != 0) = true := by rw [← hq]; exact c1
            rw [e1] at hp
            simp only [if_true] at hp
            rw [badT, if_neg (by omega), ← hp, e1, hq]; rfl
        · have hj2' : ¬ (j : Int) < 2 := by omega
          simp -dsimp only [h25, h24, h23, h15, h14, h13, h0, hj2', ↓preB, postB, genB, ↓reduceIte, Nat.reduceEqDiff, Int.reduceToNat, Int.reduceLE, Int.reduceLT, Nat.reduceAdd, Nat.reduceLeDiff, intBin, strBin, unD, extractD, lit1, lit2, lit3, keptD, boxR, D.one, D.pub1, D.cells, splice, cutOwn]
          have e0 : rowE t[k] = 0 := by
            rw [← hq, List.drop_of_length_le (by omega)]; rfl
          rw [e0] at hp
          exact ⟨k + 1, ⟨by omega, by simpa using hp, hH', wrap64_succ (by omega)⟩, by omega⟩
    · simp -dsimp only [h15, h14, h13, h0, encT, Nat.not_lt.2 hge, hbig, ↓preB, postB, genB, ↓reduceIte, Nat.reduceEqDiff, Int.reduceToNat, Int.reduceLE, Int.reduceLT, Nat.reduceAdd, Nat.reduceLeDiff, intBin, strBin, unD, extractD, lit1, lit2, lit3, keptD, boxR, D.one, D.pub1, D.cells, splice, cutOwn]
      have hfe : firstE t = 0 := by rw [← hp, List.drop_of_length_le hge]; rfl
      refine pwp_loopG (fun k env s' => k ≤ t.length ∧ ordBad (prevF t k) (t.drop k) = ordBad none t ∧ HLe σ s' ∧ env 38 = .int .i64 (k:Nat) ∧ env 37 = .int .i64 t.length ∧ env 36 = encT t ∧ env 0 = encT t) (fun k => t.length - k) 0 ?_ ?_
      · simp only [upd_apply, Nat.reduceEqDiff, if_true, if_false, h0]
        exact ⟨by omega, by simp [prevF], hH, rfl, trivial, rfl, trivial⟩
      · rintro k env s ⟨hk, hp, hH, h38, h37, h36, h0⟩
        rcases Nat.lt_or_ge k t.length with hlt | hge
        · have hd := rowsD_at hlt
          have hpos : 0 < (rowsD t).length := by rw [rowsD_len]; omega
          rw [List.drop_eq_getElem_cons hlt, ordBad, ← prevF_next hlt] at hp
          simp -dsimp only [h38, h37, h36, h0, encT, hlt, hd, hpos, hbig, ↓preB, postB, genB, ↓reduceIte, Nat.reduceEqDiff, Int.reduceToNat, Int.reduceLE, Int.reduceLT, Nat.reduceAdd, Nat.reduceLeDiff, intBin, strBin, unD, extractD, lit1, lit2, lit3, keptD, boxR, D.one, D.pub1, D.cells, splice, cutOwn]
          have hH1 : ∀ o, HLe σ (s.new o) := fun o => hH.new' o hcl
          refine draw_s ?_
          have hdone : badO (prevF t k) t[k] = true → badT t = 1 := fun hb => by
            rw [hb, Bool.true_or] at hp
            rw [badT, if_neg (by omega), hfe, ← hp]; rfl
          have hgo : badO (prevF t k) t[k] = false → ordBad (prevF t (k + 1)) (t.drop (k + 1)) = ordBad none t := fun hb => by
            rw [hb, Bool.false_or] at hp; exact hp
          have c1n : ((t[k].From.length : Int) == 0) = (t[k].From.length == 0) := by
            rw [Bool.eq_iff_iff]; simp
          cases c1 : (t[k].From.length == 0)
          · by_cases ck : k = 0
            · have ckn : ¬ (0 : Int) < k := by omega
              simp -dsimp only [h38, h37, h36, h0, encT, encSS, hlt, hd, hpos, hbig, c1n, c1, ckn, ↓preB, postB, genB, ↓reduceIte, Nat.reduceEqDiff, Int.reduceToNat, Int.reduceLE, Int.reduceLT, Nat.reduceAdd, Nat.reduceLeDiff, intBin, strBin, unD, extractD, lit1, lit2, lit3, keptD, boxR, D.one, D.pub1, D.cells, splice, cutOwn]
              have hb : badO (prevF t k) t[k] = false := by simp [badO, prevF, c1, if_pos ck]
              exact ⟨k + 1, ⟨by omega, hgo hb, hH1 _, wrap64_succ (by omega)⟩, by omega⟩
            · have ckp : (0 : Int) < k := by omega
              have hw : IntKind.i64.wrap ((k : Int) - 1) = ((k - 1 : Nat) : Int) := wrap64_pred (by omega) (by omega)
              have hlt' : k - 1 < t.length := by omega
              have hd' := rowsD_at hlt'
              simp -dsimp only [h38, h37, h36, h0, encT, encSS, hlt, hlt', hd, hd', hpos, hbig, c1n, c1, ckp, hw, ↓preB, postB, genB, ↓reduceIte, Nat.reduceEqDiff, Int.reduceToNat, Int.reduceLE, Int.reduceLT, Nat.reduceAdd, Nat.reduceLeDiff, intBin, strBin, unD, extractD, lit1, lit2, lit3, keptD, boxR, D.one, D.pub1, D.cells, splice, cutOwn]
              refine Fn.useS (Compare_c _ _) ?_
              have hb := badO_prev hlt ck
              rw [c1, Bool.false_or] at hb
              by_cases c2 : 0 ≤ ordW (t[k-1]'hlt').From t[k].From
              · simp -dsimp only [h38, h37, h36, h0, encT, encSS, hlt, hlt', hd, hd', hpos, hbig, c1n, c1, ckp, hw, c2, ↓preB, postB, genB, ↓reduceIte, Nat.reduceEqDiff, Int.reduceToNat, Int.reduceLE, Int.reduceLT, Nat.reduceAdd, Nat.reduceLeDiff, intBin, strBin, unD, extractD, lit1, lit2, lit3, keptD, boxR, D.one, D.pub1, D.cells, splice, cutOwn]
                exact Ret.isH (hH1 _) hcl (by rw [hdone (by rw [hb]; simpa using c2)]) (.int _ _)
              · simp -dsimp only [h38, h37, h36, h0, encT, encSS, hlt, hlt', hd, hd', hpos, hbig, c1n, c1, ckp, hw, c2, ↓preB, postB, genB, ↓reduceIte, Nat.reduceEqDiff, Int.reduceToNat, Int.reduceLE, Int.reduceLT, Nat.reduceAdd, Nat.reduceLeDiff, intBin, strBin, unD, extractD, lit1, lit2, lit3, keptD, boxR, D.one, D.pub1, D.cells, splice, cutOwn]
                exact ⟨k + 1, ⟨by omega, hgo (by rw [hb]; simpa using c2), hH1 _, wrap64_succ (by omega)⟩, by omega⟩
          · simp -dsimp only [h38, h37, h36, h0, encT, encSS, hlt, hd, hpos, hbig, c1n, c1, ↓preB, postB, genB, ↓reduceIte, Nat.reduceEqDiff, Int.reduceToNat, Int.reduceLE, Int.reduceLT, Nat.reduceAdd, Nat.reduceLeDiff, intBin, strBin, unD, extractD, lit1, lit2, lit3, keptD, boxR, D.one, D.pub1, D.cells, splice, cutOwn]
            exact Ret.isH (hH1 _) hcl (by rw [hdone (by simp only [badO, c1, Bool.true_or])]) (.int _ _)
        · simp -dsimp only [h38, h37, h36, h0, encT, Nat.not_lt.2 hge, hbig, ↓preB, postB, genB, ↓reduceIte, Nat.reduceEqDiff, Int.reduceToNat, Int.reduceLE, Int.reduceLT, Nat.reduceAdd, Nat.reduceLeDiff, intBin, strBin, unD, extractD, lit1, lit2, lit3, keptD, boxR, D.one, D.pub1, D.cells, splice, cutOwn]
          refine Ret.isH hH hcl ?_ (.int _ _)
          rw [badT, if_neg (by omega), hfe, ← hp, List.drop_of_length_le hge]; rfl
end Go.Proofs.YtldlcejlfaogbaaDoor.Vs
