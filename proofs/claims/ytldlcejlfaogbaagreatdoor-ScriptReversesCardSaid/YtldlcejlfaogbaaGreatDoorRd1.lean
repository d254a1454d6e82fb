import Derived.Shelf.Small.Strs
import Derived.Test.YtldlcejlfaogbaaGreatDoorNewS
import Derived.Test.YtldlcejlfaogbaaGreatDoorLawReadsA
import Derived.Test.YtldlcejlfaogbaaGreatDoorSo1
import Derived.Test.YtldlcejlfaogbaaGreatDoorRet1
/- numbers of YtldlcejlfaogbaaDoor -/
namespace Go.Proofs.YtldlcejlfaogbaaGreatDoor.Vs
open Go.Shelf Go.RowKit
set_option linter.unusedVariables false
set_option linter.unusedSimpArgs false
set_option maxRecDepth 100000
end Go.Proofs.YtldlcejlfaogbaaGreatDoor.Vs

/- numbers of YtldlcejlfaogbaaDoor -/
namespace Go.Proofs.YtldlcejlfaogbaaGreatDoor.Vs
set_option linter.unusedVariables false
set_option linter.unusedSimpArgs false
set_option maxRecDepth 100000
theorem told_nilW {σ τ : Heap} : Told σ τ (.sl .nil 0 []) (encSS []) := .sl .nil .no 0 [] [] (.inl rfl) rfl (fun i h => by cases h)
end Go.Proofs.YtldlcejlfaogbaaGreatDoor.Vs

/- numbers of YtldlcejlfaogbaaDoor -/
namespace Go.Proofs.YtldlcejlfaogbaaGreatDoor.Vs
open Go.RowKit Go.Sort
set_option linter.unusedVariables false
set_option linter.unusedSimpArgs false
set_option maxRecDepth 100000
theorem RT.box {σ0 σ : Heap} {e e' : TypeId} {z z' n n' : Nat} {cs cs' : List D} {d d' : D} (h : RT σ0 e z n cs d e' z' n' cs' d' σ) (hc : Closed σ0) (o o' : AO) : RT σ0 e z n cs d e' z' n' cs' d' ((σ.new o).set σ.next o') := by
  have hk : ∀ r x, σ.get r = some x → ((σ.new o).set σ.next o').get r = some x := fun r x hr => by
    rw [Heap.set_ne _ _ (Nat.ne_of_lt (h.lt r x hr))]
    exact new_keep h.lt o r x hr
  refine ⟨(h.le.new' o hc).set_out _ hc h.le.next, fun r x hr => ?_, h.one.mono fun r _ _ hr => hk r _ hr, h.two.mono fun r x _ hr => hk r x hr⟩
  rw [Heap.set_get] at hr
  rw [Heap.next_set, Heap.next_new]
  split at hr
  · rename_i e1; rw [e1]; exact Nat.lt_succ_self _
  · have := new_lt h.lt o r x hr
    rw [Heap.next_new] at this
    exact this
end Go.Proofs.YtldlcejlfaogbaaGreatDoor.Vs

/- numbers of YtldlcejlfaogbaaDoor -/
namespace Go.Proofs.YtldlcejlfaogbaaGreatDoor.Vs
open Go.RowKit Go.Sort
set_option linter.unusedVariables false
set_option linter.unusedSimpArgs false
set_option maxRecDepth 100000
theorem rowsD_take : ∀ (t : List Sh) (k : Nat), (rowsD t).take (k * 2) = rowsD (t.take k)
  | t, 0 => by simp [rowsD]
  | [], k + 1 => by simp [rowsD]
  | r :: t, k + 1 => by
    rw [Nat.succ_mul, rowsD]
    simp [rowsD, rowsD_take t k]
theorem bs22_0 (nx : Nat) : buildSliceR Zs 0 22 0 [] nx = some (.sl .full 0 [], .keep) := by rfl
theorem srt_len (t : List Sh) (k : Nat) (h : k ≤ t.length) : (srtT (t.take k)).length = k := by
  rw [(srtT_perm _).length_eq, List.length_take, Nat.min_eq_left h]
theorem srt_step {t : List Sh} {k : Nat} (h : k < t.length) : srtT (t.take (k + 1)) = insT (srtT (t.take k)) t[k] := by
  unfold srtT
  rw [List.take_succ_eq_append_getElem h, List.foldl_append]
  rfl
theorem sorted_c (t : List Sh) (ht : t.length ≤ 100000) : Fn Zs 68 [encT t] (encT (srtT t)) := by
  refine fn_of (Z := Zs) ok68 fun σ hcl hbl => ?_
  simp -dsimp only [L68, encT, ↓preB, postB, genB, ↓reduceIte, Nat.reduceEqDiff, Int.reduceToNat, Int.reduceLE, Int.reduceLT, Nat.reduceAdd, Nat.reduceLeDiff, intBin, strBin, unD, extractD, lit1, lit2, lit3, keptD, boxR, D.one, D.pub1, D.cells, splice, cutOwn]
  refine pwp_loopG (fun k env s => k ≤ t.length ∧ Acc 67 2 σ k (rowsD (srtT (t.take k))) (env 3) s ∧ env 4 = .int .i64 (k:Nat) ∧ env 0 = encT t) (fun k => t.length - k) 0 ?_ ?_
  · simp only [upd_apply, envOf_apply, encT, Nat.reduceEqDiff, if_true, if_false]
    exact ⟨Nat.zero_le _, Acc.nil (HLe.refl _), rfl, rfl⟩
  · rintro k env s ⟨hk, hA, h4, h0⟩
    rcases Nat.lt_or_ge k t.length with hlt | hge
    · have hd := rowsD_at hlt
      have hpos : 0 < (rowsD t).length := by rw [rowsD_len]; omega
      have hol := srt_len t k hk
      have hst := srt_step hlt
      obtain ⟨o, h3⟩ := hA.is
      generalize srtT (t.take k) = out at *
      generalize hx : t[k] = x at *
      have hrl := rowsD_len out
      rw [hol] at hrl
      simp -dsimp only [h4, h3, h0, encT, hlt, hd, hpos, ↓preB, postB, genB, ↓reduceIte, Nat.reduceEqDiff, Int.reduceToNat, Int.reduceLE, Int.reduceLT, Nat.reduceAdd, Nat.reduceLeDiff, intBin, strBin, unD, extractD, lit1, lit2, lit3, keptD, boxR, D.one, D.pub1, D.cells, splice, cutOwn]
      intro _ _
      refine pwp_loopG (fun n env' s' => n ≤ k ∧ insAt out x n = insAt out x out.length ∧ s' = s ∧ env' 3 = env 3 ∧ env' 4 = .int .i64 (k:Nat) ∧ env' 5 = .int .i64 (n:Nat) ∧ env' 0 = encT t) (fun n => n) k ?_ ?_
      · simp only [upd_apply, Nat.reduceEqDiff, if_true, if_false]
        exact ⟨Nat.le_refl _, by rw [hol], trivial, trivial, h4, trivial, h0⟩
      · rintro n env' s' ⟨hnk, hI, rfl, g3, g4, g5, g0⟩
        rw [h3] at g3
        have fin : insAt out x n = n → True := fun _ => trivial
        by_cases hn : n = 0
        · subst hn
          have c1 : ¬ (0 : Int) < ((0 : Nat) : Int) := by omega
          have hat : insAt out x out.length = 0 := by rw [← hI]; rfl
          simp -dsimp only [g0, g3, g4, g5, h4, h3, h0, encT, hlt, hd, hpos, c1, ↓preB, postB, genB, ↓reduceIte, Nat.reduceEqDiff, Int.reduceToNat, Int.reduceLE, Int.reduceLT, Nat.reduceAdd, Nat.reduceLeDiff, intBin, strBin, unD, extractD, lit1, lit2, lit3, keptD, boxR, D.one, D.pub1, D.cells, splice, cutOwn]
          refine draw_s ?_
          simp -dsimp only [g0, g3, g4, g5, h4, h3, h0, encT, hlt, hd, hpos, c1, gate, decide_false, bs22_0, show (false == true) = false from rfl, ↓preB, postB, genB, ↓reduceIte, Nat.reduceEqDiff, Int.reduceToNat, Int.reduceLE, Int.reduceLT, Nat.reduceAdd, Nat.reduceLeDiff, intBin, strBin, unD, extractD, lit1, lit2, lit3, keptD, boxR, D.one, D.pub1, D.cells, splice, cutOwn]
          refine ⟨⟨by omega, by omega, hrl⟩, ?_⟩
          have hA0 : Acc 67 2 σ 0 [] (.sl .full 0 []) s' := Acc.full hA.le
          refine hA0.append hcl tz22 rfl tz67 rfl rfl rfl (by decide) (by simp) (fedBy_sl tz22 rfl (by show _ = _ * 2; simp only [List.length_take, List.length_drop]; omega)) (by simp only []; omega) (by simp only [big]; omega) fun d1 s1 hA1 => ?_
          have hA1 : Acc 67 2 σ 0 (rowsD (out.take 0)) d1 s1 := by simpa [← rowsD_take, show rowsD [] = ([] : List D) from rfl] using hA1
          simp -dsimp only [g0, g3, g4, g5, h4, h3, h0, hx, encT, hlt, hd, hpos, bs22, encSS, ↓preB, postB, genB, ↓reduceIte, Nat.reduceEqDiff, Int.reduceToNat, Int.reduceLE, Int.reduceLT, Nat.reduceAdd, Nat.reduceLeDiff, intBin, strBin, unD, extractD, lit1, lit2, lit3, keptD, boxR, D.one, D.pub1, D.cells, splice, cutOwn]
          refine hA1.append hcl tz22 rfl tz67 rfl rfl rfl (by decide) (by show _ = _ * 2; rw [rowsD_len, List.length_take]; omega) (fedBy_sl (m := 1) tz22 rfl rfl) (by simp only []; omega) (by simp only [big]; omega) fun d2 s2 hA2 => ?_
          simp -dsimp only [g0, g3, g4, g5, h4, h3, h0, hx, encT, hlt, hd, hpos, encSS, ↓preB, postB, genB, ↓reduceIte, Nat.reduceEqDiff, Int.reduceToNat, Int.reduceLE, Int.reduceLT, Nat.reduceAdd, Nat.reduceLeDiff, intBin, strBin, unD, extractD, lit1, lit2, lit3, keptD, boxR, D.one, D.pub1, D.cells, splice, cutOwn]
          refine ⟨⟨by omega, by omega, by omega⟩, ?_⟩
          refine hA2.append hcl tz22 rfl tz67 rfl rfl rfl (by decide) (by show _ = _ * 2; rw [List.length_append, rowsD_len, List.length_take]; simp only [List.length_cons, List.length_nil]; omega) (fedBy_sl tz22 rfl (by show _ = _ * 2; simp only [List.length_take, List.length_drop]; omega)) (by simp only []; omega) (by simp only [big]; omega) fun d3 s3 hA3 => ?_
          simp -dsimp only [g0, g3, g4, g5, h4, h3, h0, hx, encT, hlt, hd, hpos, encSS, ↓preB, postB, genB, ↓reduceIte, Nat.reduceEqDiff, Int.reduceToNat, Int.reduceLE, Int.reduceLT, Nat.reduceAdd, Nat.reduceLeDiff, intBin, strBin, unD, extractD, lit1, lit2, lit3, keptD, boxR, D.one, D.pub1, D.cells, splice, cutOwn]
          have e2 : List.take ((k - 0) * 2) (List.drop (0 * 2) (rowsD out)) = rowsD (out.drop 0) := by
            rw [rowsD_drop, List.take_of_length_le (by rw [rowsD_len, List.length_drop]; omega)]
          have hA4 : Acc 67 2 σ (k + 1) (rowsD (insT out x)) d3 s3 := by
            rw [e2, show 0 + 1 + (k - 0) = k + 1 by omega] at hA3
            rw [insT, hat, rowsD_append, rowsD]
            simpa [encSS] using hA3
          exact ⟨k + 1, ⟨by omega, by rw [hst]; exact hA4, wrap64_succ (by simp only [big]; omega)⟩, by omega⟩
        · obtain ⟨m, rfl⟩ : ∃ m, n = m + 1 := ⟨n - 1, by omega⟩
          have hml : m < out.length := by omega
          have hdm := rowsD_at hml
          have hposm : 0 < (rowsD out).length := by omega
          have c1 : (0 : Int) < ((m + 1 : Nat) : Int) := by omega
          have hw : IntKind.i64.wrap (((m + 1 : Nat) : Int) - 1) = (m : Int) := by rw [wrap64_in (by omega) (by omega)]; omega
          have hxm : out[m]? = some out[m] := List.getElem?_eq_getElem hml
          have hmk : m < k := by omega
          simp -dsimp only [g0, g3, g4, g5, h4, h3, h0, encT, hlt, hd, hpos, c1, hw, ↓preB, postB, genB, ↓reduceIte, Nat.reduceEqDiff, Int.reduceToNat, Int.reduceLE, Int.reduceLT, Nat.reduceAdd, Nat.reduceLeDiff, intBin, strBin, unD, extractD, lit1, lit2, lit3, keptD, boxR, D.one, D.pub1, D.cells, splice, cutOwn]
          refine draw_s ?_
          simp -dsimp only [g0, g3, g4, g5, h4, h3, h0, encT, hlt, hd, hpos, c1, hw, hmk, hdm, hposm, gate, decide_true, show (true == true) = true from rfl, ↓preB, postB, genB, ↓reduceIte, Nat.reduceEqDiff, Int.reduceToNat, Int.reduceLE, Int.reduceLT, Nat.reduceAdd, Nat.reduceLeDiff, intBin, strBin, unD, extractD, lit1, lit2, lit3, keptD, boxR, D.one, D.pub1, D.cells, splice, cutOwn]
          refine Fn.useS (Order_c _ _) ?_
          by_cases hord : 0 < ordW out[m].From x.From
          · simp -dsimp only [g0, g3, g4, g5, h4, h3, h0, encT, hlt, hd, hpos, c1, hw, hord, gate, decide_true, show (true == true) = true from rfl, ↓preB, postB, genB, ↓reduceIte, Nat.reduceEqDiff, Int.reduceToNat, Int.reduceLE, Int.reduceLT, Nat.reduceAdd, Nat.reduceLeDiff, intBin, strBin, unD, extractD, lit1, lit2, lit3, keptD, boxR, D.one, D.pub1, D.cells, splice, cutOwn]
            have hI2 : insAt out x m = insAt out x out.length := by
              rw [← hI, insAt, hxm]
              simp only [hord, if_true]
            exact ⟨m, ⟨by omega, hI2, rfl⟩, by omega⟩
          · have hat : insAt out x out.length = m + 1 := by
              rw [← hI, insAt, hxm]
              simp only [hord, if_false]
            simp -dsimp only [g0, g3, g4, g5, h4, h3, h0, encT, hlt, hd, hpos, c1, hw, hord, gate, decide_true, decide_false, bs22_0, show (true == true) = true from rfl, ↓preB, postB, genB, ↓reduceIte, Nat.reduceEqDiff, Int.reduceToNat, Int.reduceLE, Int.reduceLT, Nat.reduceAdd, Nat.reduceLeDiff, intBin, strBin, unD, extractD, lit1, lit2, lit3, keptD, boxR, D.one, D.pub1, D.cells, splice, cutOwn]
            refine ⟨⟨by omega, by omega, hrl⟩, ?_⟩
            have hA0 : Acc 67 2 σ 0 [] (.sl .full 0 []) s' := Acc.full hA.le
            refine hA0.append hcl tz22 rfl tz67 rfl rfl rfl (by decide) (by simp) (fedBy_sl tz22 rfl (by show _ = _ * 2; simp only [List.length_take, List.length_drop]; omega)) (by simp only []; omega) (by simp only [big]; omega) fun d1 s1 hA1 => ?_
            have hA1 : Acc 67 2 σ (m + 1) (rowsD (out.take (m + 1))) d1 s1 := by simpa [← rowsD_take, show rowsD [] = ([] : List D) from rfl] using hA1
            simp -dsimp only [g0, g3, g4, g5, h4, h3, h0, hx, encT, hlt, hd, hpos, bs22, encSS, ↓preB, postB, genB, ↓reduceIte, Nat.reduceEqDiff, Int.reduceToNat, Int.reduceLE, Int.reduceLT, Nat.reduceAdd, Nat.reduceLeDiff, intBin, strBin, unD, extractD, lit1, lit2, lit3, keptD, boxR, D.one, D.pub1, D.cells, splice, cutOwn]
            refine hA1.append hcl tz22 rfl tz67 rfl rfl rfl (by decide) (by show _ = _ * 2; rw [rowsD_len, List.length_take]; omega) (fedBy_sl (m := 1) tz22 rfl rfl) (by simp only []; omega) (by simp only [big]; omega) fun d2 s2 hA2 => ?_
            simp -dsimp only [g0, g3, g4, g5, h4, h3, h0, hx, encT, hlt, hd, hpos, encSS, ↓preB, postB, genB, ↓reduceIte, Nat.reduceEqDiff, Int.reduceToNat, Int.reduceLE, Int.reduceLT, Nat.reduceAdd, Nat.reduceLeDiff, intBin, strBin, unD, extractD, lit1, lit2, lit3, keptD, boxR, D.one, D.pub1, D.cells, splice, cutOwn]
            refine ⟨⟨by omega, by omega, by omega⟩, ?_⟩
            refine hA2.append hcl tz22 rfl tz67 rfl rfl rfl (by decide) (by show _ = _ * 2; rw [List.length_append, rowsD_len, List.length_take]; simp only [List.length_cons, List.length_nil]; omega) (fedBy_sl tz22 rfl (by show _ = _ * 2; simp only [List.length_take, List.length_drop]; omega)) (by simp only []; omega) (by simp only [big]; omega) fun d3 s3 hA3 => ?_
            simp -dsimp only [g0, g3, g4, g5, h4, h3, h0, hx, encT, hlt, hd, hpos, encSS, ↓preB, postB, genB, ↓reduceIte, Nat.reduceEqDiff, Int.reduceToNat, Int.reduceLE, Int.reduceLT, Nat.reduceAdd, Nat.reduceLeDiff, intBin, strBin, unD, extractD, lit1, lit2, lit3, keptD, boxR, D.one, D.pub1, D.cells, splice, cutOwn]
            have e2 : List.take ((k - (m + 1)) * 2) (List.drop ((m + 1) * 2) (rowsD out)) = rowsD (out.drop (m + 1)) := by
              rw [rowsD_drop, List.take_of_length_le (by rw [rowsD_len, List.length_drop]; omega)]
            have hA4 : Acc 67 2 σ (k + 1) (rowsD (insT out x)) d3 s3 := by
              rw [e2, show (m + 1) + 1 + (k - (m + 1)) = k + 1 by omega] at hA3
              rw [insT, hat, rowsD_append, rowsD]
              simpa [encSS] using hA3
            exact ⟨k + 1, ⟨by omega, by rw [hst]; exact hA4, wrap64_succ (by simp only [big]; omega)⟩, by omega⟩
    · have hkl : k = t.length := by omega
      subst hkl
      rw [List.take_length] at hA
      simp -dsimp only [h4, h0, encT, Nat.lt_irrefl, ↓preB, postB, genB, ↓reduceIte, Nat.reduceEqDiff, Int.reduceToNat, Int.reduceLE, Int.reduceLT, Nat.reduceAdd, Nat.reduceLeDiff, intBin, strBin, unD, extractD, lit1, lit2, lit3, keptD, boxR, D.one, D.pub1, D.cells, splice, cutOwn]
      intro _
      have hl : (srtT t).length = t.length := (srtT_perm t).length_eq
      refine Ret.less hA.le hcl ?_ (.no (bel_rowsD _))
      rw [hl]
      exact hA.told
end Go.Proofs.YtldlcejlfaogbaaGreatDoor.Vs
