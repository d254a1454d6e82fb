import Derived.Test.YtldlcejlfaogbaaGreatDoorJo1
import Derived.Test.YtldlcejlfaogbaaGreatDoorDmTwo
/- numbers of YtldlcejlfaogbaaDoor -/
namespace Go.Proofs.YtldlcejlfaogbaaGreatDoor.Vs
set_option linter.unusedVariables false
set_option linter.unusedSimpArgs false
set_option maxRecDepth 20000
theorem nilOf_no {n : Nat} (hn : 0 < n) : nilOf .no n = some false := by simp [nilOf, hn]
theorem bs29_0 {nx : Nat} : buildSliceR Zs 0 23 0 [] nx = some (.sl .full 0 [], .keep) := by rfl
theorem cloneW_c (w : Wd) (h0 : w ≠ []) (hb : w.length ≤ 100000) : Fn Zs 45 [encSS w] (encSS w) := by
  have hp : 0 < w.length := List.length_pos_iff.2 h0
  refine fn_of (Z := Zs) ok45 fun σ hcl hbl => ?_
  simp -dsimp only [L45, nilOf_no hp, bs29_0, encSS, ↓preB, postB, genB, ↓reduceIte, Nat.reduceEqDiff, Int.reduceToNat, Int.reduceLE, Int.reduceLT, Nat.reduceAdd, Nat.reduceLeDiff, intBin, strBin, unD, extractD, lit1, lit2, lit3, keptD, boxR, D.one, D.pub1, D.cells, splice, cutOwn]
  refine (Acc.full (e := 9) (z := 1) (n := 0) (cs := []) (HLe.refl σ)).append (m := w.length) (ys := w.map .str) hcl tz23 rfl tz9 rfl rfl rfl (by decide) (by simp) (fedBy_sl tz23 rfl (by simp)) (by simp only []; omega) (by simp only [big]; omega) fun d' s' hA => ?_
  simp -dsimp only [↓preB, postB, genB, ↓reduceIte, Nat.reduceEqDiff, Int.reduceToNat, Int.reduceLE, Int.reduceLT, Nat.reduceAdd, Nat.reduceLeDiff, intBin, strBin, unD, extractD, lit1, lit2, lit3, keptD, boxR, D.one, D.pub1, D.cells, splice, cutOwn]
  exact Ret.less hA.le hcl (by simpa [encSS] using hA.told) (.no (bel_strs _))

theorem rowsD_append : ∀ a b : List Sh, rowsD (a ++ b) = rowsD a ++ rowsD b
  | [], b => rfl
  | r :: a, b => by simp only [List.cons_append, rowsD, rowsD_append a b]
theorem tos_take {a : List Sh} {k : Nat} (h : k < a.length) : (a.take (k + 1)).map (·.To) = (a.take k).map (·.To) ++ [a[k].To] := by
  rw [List.take_succ_eq_append_getElem h]
  simp only [List.map_append, List.map_cons, List.map_nil]
def encJ (v : List Sh × Bool × Int) : D := .tup [encT v.1, .bool v.2.1, .int .i64 v.2.2]
theorem bel_rowsD {N : Nat} : ∀ t : List Sh, ∀ d ∈ rowsD t, Bel N d
  | [], d, h => by cases h
  | r :: t, d, h => by
    simp only [rowsD, List.mem_cons] at h
    rcases h with rfl | rfl | h
    · exact .no (bel_strs _)
    · exact .no (bel_strs _)
    · exact bel_rowsD t d h
theorem bel_encJ {N : Nat} (v : List Sh × Bool × Int) : Bel N (encJ v) := .tup3 (.no (bel_rowsD _)) (.bool _) (.int _ _)
theorem told_nilT {σ τ : Heap} : Told σ τ (.sl .nil 0 []) (encT []) := .sl .nil .no 0 [] [] (.inl rfl) rfl (fun i h => by cases h)
theorem ab46 (o o2 : Own) (n n2 : Nat) (cs cs2 : List D) : aBuilt Zs 67 [(0, .sl o n cs), (1, .sl o2 n2 cs2)] = some [.sl o n cs, .sl o2 n2 cs2] := by rfl
theorem bs22 (o o2 : Own) (n n2 nx : Nat) (cs cs2 : List D) : buildSliceR Zs 0 22 1 [(0, .agg [.sl o n cs, .sl o2 n2 cs2])] nx = some (.sl .full 1 [.sl o n cs, .sl o2 n2 cs2], .keep) := by rfl
end Go.Proofs.YtldlcejlfaogbaaGreatDoor.Vs

/- numbers of YtldlcejlfaogbaaDoor -/
namespace Go.Proofs.YtldlcejlfaogbaaGreatDoor.Vs
set_option linter.unusedVariables false
set_option linter.unusedSimpArgs false
set_option maxRecDepth 20000
theorem bel_SS {N : Nat} (w : Wd) : Bel N (.sl .no w.length (w.map .str)) := .no (bel_strs _)
theorem bel_LL {N : Nat} (l : List Wd) : Bel N (encLL l) := .no fun d hd => by
  obtain ⟨w, _, rfl⟩ := List.mem_map.1 hd
  exact bel_SS w
theorem refJoinW_c (a b : Wd) (ha : a.length ≤ 100000) (hb : b.length ≤ 100000) : Fn Zs 67 [encSS a, encSS b] (encSS (a ++ b)) := by
  refine fn_of (Z := Zs) ok67 fun σ hcl hbl => ?_
  simp -dsimp only [L67, bs29_0, encSS, ↓preB, postB, genB, ↓reduceIte, Nat.reduceEqDiff, Int.reduceToNat, Int.reduceLE, Int.reduceLT, Nat.reduceAdd, Nat.reduceLeDiff, intBin, strBin, unD, extractD, lit1, lit2, lit3, keptD, boxR, D.one, D.pub1, D.cells, splice, cutOwn]
  refine (Acc.full (e := 9) (z := 1) (n := 0) (cs := []) (HLe.refl σ)).append (m := a.length) (ys := a.map .str) hcl tz23 rfl tz9 rfl rfl rfl (by decide) (by simp) (fedBy_sl tz23 rfl (by simp)) (by simp only []; omega) (by simp only [big]; omega) fun d' s' hA => ?_
  simp -dsimp only [encSS, ↓preB, postB, genB, ↓reduceIte, Nat.reduceEqDiff, Int.reduceToNat, Int.reduceLE, Int.reduceLT, Nat.reduceAdd, Nat.reduceLeDiff, intBin, strBin, unD, extractD, lit1, lit2, lit3, keptD, boxR, D.one, D.pub1, D.cells, splice, cutOwn]
  refine hA.append (m := b.length) (ys := b.map .str) hcl tz23 rfl tz9 rfl rfl rfl (by decide) (by simp) (fedBy_sl tz23 rfl (by simp)) (by simp only []; omega) (by simp only [big]; omega) fun d2 s2 hA2 => ?_
  simp -dsimp only [↓preB, postB, genB, ↓reduceIte, Nat.reduceEqDiff, Int.reduceToNat, Int.reduceLE, Int.reduceLT, Nat.reduceAdd, Nat.reduceLeDiff, intBin, strBin, unD, extractD, lit1, lit2, lit3, keptD, boxR, D.one, D.pub1, D.cells, splice, cutOwn]
  exact Ret.less hA2.le hcl (by simpa [encSS] using hA2.told) (bel_SS (a ++ b))
theorem tos_c (t : List Sh) (ht : t.length ≤ 100000) : Fn Zs 64 [encT t] (encLL (t.map (·.To))) := by
  refine fn_of (Z := Zs) ok64 fun σ hcl hbl => ?_
  simp -dsimp only [L64, encT, ↓preB, postB, genB, ↓reduceIte, Nat.reduceEqDiff, Int.reduceToNat, Int.reduceLE, Int.reduceLT, Nat.reduceAdd, Nat.reduceLeDiff, intBin, strBin, unD, extractD, lit1, lit2, lit3, keptD, boxR, D.one, D.pub1, D.cells, splice, cutOwn]
  refine pwp_loopG (fun k env s => k ≤ t.length ∧ Acc 23 1 σ k (((t.take k).map (·.To)).map encSS) (env 3) s ∧ env 4 = .int .i64 (k:Nat) ∧ env 0 = encT t) (fun k => t.length - k) 0 ?_ ?_
  · simp only [upd_apply, envOf_apply, encT, Nat.reduceEqDiff, if_true, if_false]
    exact ⟨Nat.zero_le _, Acc.nil (HLe.refl _), rfl, rfl⟩
  · rintro k env s ⟨hk, hA, h4, h0⟩
    rcases Nat.lt_or_ge k t.length with hlt | hge
    · have hd := rowsD_at hlt
      have hpos : 0 < (rowsD t).length := by rw [rowsD_len]; omega
      simp -dsimp only [h4, h0, encT, encSS, hlt, hd, hpos, ↓preB, postB, genB, ↓reduceIte, Nat.reduceEqDiff, Int.reduceToNat, Int.reduceLE, Int.reduceLT, Nat.reduceAdd, Nat.reduceLeDiff, intBin, strBin, unD, extractD, lit1, lit2, lit3, keptD, boxR, D.one, D.pub1, D.cells, splice, cutOwn]
      intros
      have htt := tos_take (a := t) hlt
      refine hA.append hcl tz58 rfl tz23 rfl rfl rfl (by decide) (by simp; omega) (fedBy_sl (m := 1) tz58 rfl rfl) (by simp only []; omega) (by simp only [big]; omega) fun d' s' hA' => ?_
      simp -dsimp only [h4, h0, encT, encSS, hlt, hd, hpos, ↓preB, postB, genB, ↓reduceIte, Nat.reduceEqDiff, Int.reduceToNat, Int.reduceLE, Int.reduceLT, Nat.reduceAdd, Nat.reduceLeDiff, intBin, strBin, unD, extractD, lit1, lit2, lit3, keptD, boxR, D.one, D.pub1, D.cells, splice, cutOwn]
      refine ⟨k + 1, ⟨by omega, ?_, wrap64_succ (by omega)⟩, by omega⟩
      rw [htt, List.map_append]
      exact hA'
    · have hkl : k = t.length := by omega
      subst hkl
      rw [List.take_length] at hA
      simp -dsimp only [h4, h0, encT, Nat.lt_irrefl, ↓preB, postB, genB, ↓reduceIte, Nat.reduceEqDiff, Int.reduceToNat, Int.reduceLE, Int.reduceLT, Nat.reduceAdd, Nat.reduceLeDiff, intBin, strBin, unD, extractD, lit1, lit2, lit3, keptD, boxR, D.one, D.pub1, D.cells, splice, cutOwn]
      intros
      exact Ret.less hA.le hcl (by simpa [encLL] using hA.told) (bel_LL _)
theorem isPlain_c (t : List Sh) : Fn Zs 115 [encT t] (.bool (plainT t)) := by
  refine fn_of (Z := Zs) ok115 fun σ hcl hbl => ?_
  simp -dsimp only [L115, encT, ↓preB, postB, genB, ↓reduceIte, Nat.reduceEqDiff, Int.reduceToNat, Int.reduceLE, Int.reduceLT, Nat.reduceAdd, Nat.reduceLeDiff, intBin, strBin, unD, extractD, lit1, lit2, lit3, keptD, boxR, D.one, D.pub1, D.cells, splice, cutOwn]
  refine pwp_loopG (fun k env s => k ≤ t.length ∧ plainT (t.drop k) = plainT t ∧ s = σ ∧ env 3 = .int .i64 (k:Nat) ∧ env 0 = encT t) (fun k => t.length - k) 0 ?_ ?_
  · simp only [upd_apply, envOf_apply, encT, Nat.reduceEqDiff, if_true, if_false]
    exact ⟨Nat.zero_le _, by rw [List.drop_zero], trivial, rfl, rfl⟩
  · rintro k env s ⟨hk, hp, rfl, h3, h0⟩
    rcases Nat.lt_or_ge k t.length with hlt | hge
    · have hd := rowsD_at hlt
      have hpos : 0 < (rowsD t).length := by rw [rowsD_len]; omega
      rw [List.drop_eq_getElem_cons hlt, plainT, List.any_cons] at hp
      cases hc : ((t[k].From.length : Int) != 1) <;> simp -dsimp only [h3, h0, hc, encT, encSS, hlt, hd, hpos, ↓preB, postB, genB, ↓reduceIte, Nat.reduceEqDiff, Int.reduceToNat, Int.reduceLE, Int.reduceLT, Nat.reduceAdd, Nat.reduceLeDiff, intBin, strBin, unD, extractD, lit1, lit2, lit3, keptD, boxR, D.one, D.pub1, D.cells, splice, cutOwn]
      · intros
        rw [hc, Bool.false_or] at hp
        exact ⟨k + 1, ⟨by omega, by rw [← hp]; rfl, wrap64_succ (by omega)⟩, by omega⟩
      · intros
        rw [hc, Bool.true_or] at hp
        exact Ret.is (by rw [← hp]; rfl)
    · rw [List.drop_of_length_le hge] at hp
      simp -dsimp only [h3, h0, encT, Nat.not_lt.2 hge, ↓preB, postB, genB, ↓reduceIte, Nat.reduceEqDiff, Int.reduceToNat, Int.reduceLE, Int.reduceLT, Nat.reduceAdd, Nat.reduceLeDiff, intBin, strBin, unD, extractD, lit1, lit2, lit3, keptD, boxR, D.one, D.pub1, D.cells, splice, cutOwn]
      intros
      exact Ret.is (by rw [← hp]; rfl)
theorem sameT_c (t : List Sh) : Fn Zs 24 [encT t, encT t] (.bool true) := by
  refine fn_of (Z := Zs) ok24 fun σ hcl hbl => ?_
  simp -dsimp only [L24, encT, ↓preB, postB, genB, ↓reduceIte, Nat.reduceEqDiff, Int.reduceToNat, Int.reduceLE, Int.reduceLT, Nat.reduceAdd, Nat.reduceLeDiff, intBin, strBin, unD, extractD, lit1, lit2, lit3, keptD, boxR, D.one, D.pub1, D.cells, splice, cutOwn]
  intro q1 q2
  rw [if_neg (by simp)]
  refine pwp_loopG (fun k env s => k ≤ t.length ∧ s = σ ∧ env 5 = .int .i64 (k:Nat) ∧ env 0 = encT t ∧ env 1 = encT t) (fun k => t.length - k) 0 ?_ ?_
  · simp [upd_apply, envOf_apply, encT]
  · rintro k env s ⟨hk, rfl, h5, h0, h1⟩
    rcases Nat.lt_or_ge k t.length with hlt | hge
    · have hd := rowsD_at hlt
      have hpos : 0 < (rowsD t).length := by rw [rowsD_len]; omega
      have e1 : eqW t[k].From t[k].From = true := eqW_iff.2 rfl
      have e2 : eqW t[k].To t[k].To = true := eqW_iff.2 rfl
      simp -dsimp only [h5, h0, h1, encT, hlt, hd, hpos, ↓preB, postB, genB, ↓reduceIte, Nat.reduceEqDiff, Int.reduceToNat, Int.reduceLE, Int.reduceLT, Nat.reduceAdd, Nat.reduceLeDiff, intBin, strBin, unD, extractD, lit1, lit2, lit3, keptD, boxR, D.one, D.pub1, D.cells, splice, cutOwn]
      intro _
      refine draw_s ?_
      simp -dsimp only [h5, h0, h1, encT, hlt, hd, hpos, ↓preB, postB, genB, ↓reduceIte, Nat.reduceEqDiff, Int.reduceToNat, Int.reduceLE, Int.reduceLT, Nat.reduceAdd, Nat.reduceLeDiff, intBin, strBin, unD, extractD, lit1, lit2, lit3, keptD, boxR, D.one, D.pub1, D.cells, splice, cutOwn]
      refine Fn.useS (Same_c _ _) ?_
      simp -dsimp only [h5, h0, h1, e1, encT, hlt, hd, hpos, ↓preB, postB, genB, ↓reduceIte, Nat.reduceEqDiff, Int.reduceToNat, Int.reduceLE, Int.reduceLT, Nat.reduceAdd, Nat.reduceLeDiff, intBin, strBin, unD, extractD, lit1, lit2, lit3, keptD, boxR, D.one, D.pub1, D.cells, splice, cutOwn]
      refine Fn.useS (Same_c _ _) ?_
      simp -dsimp only [h5, h0, h1, e1, e2, encT, hlt, hd, hpos, ↓preB, postB, genB, ↓reduceIte, Nat.reduceEqDiff, Int.reduceToNat, Int.reduceLE, Int.reduceLT, Nat.reduceAdd, Nat.reduceLeDiff, intBin, strBin, unD, extractD, lit1, lit2, lit3, keptD, boxR, D.one, D.pub1, D.cells, splice, cutOwn]
      exact ⟨k + 1, ⟨by omega, wrap64_succ (by omega)⟩, by omega⟩
    · simp -dsimp only [h5, h0, h1, encT, Nat.not_lt.2 hge, ↓preB, postB, genB, ↓reduceIte, Nat.reduceEqDiff, Int.reduceToNat, Int.reduceLE, Int.reduceLT, Nat.reduceAdd, Nat.reduceLeDiff, intBin, strBin, unD, extractD, lit1, lit2, lit3, keptD, boxR, D.one, D.pub1, D.cells, splice, cutOwn]
      intro _
      exact Ret.is rfl
end Go.Proofs.YtldlcejlfaogbaaGreatDoor.Vs
