/- numbers of YtldlcejlfaogbaaDoor -/
/- The table of a text, by the specification. -/
import Derived.Test.YtldlcejlfaogbaaDoorRdF3
namespace Go.Proofs.YtldlcejlfaogbaaDoor.Vs
open Go.RowKit Go.Sort
set_option linter.unusedVariables false
set_option linter.unusedSimpArgs false
set_option maxRecDepth 100000

theorem rowsD_take : ∀ (t : List Sh) (k : Nat), (rowsD t).take (k * 2) = rowsD (t.take k)
  | t, 0 => by simp [rowsD]
  | [], k + 1 => by simp [rowsD]
  | r :: t, k + 1 => by
    rw [Nat.succ_mul, rowsD]
    simp [rowsD, rowsD_take t k]
theorem bs22_0 (nx : Nat) : buildSliceR Zs 0 22 0 [] nx = some (.sl .full 0 [], .keep) := by rfl
theorem insT_len (l : List Sh) (x : Sh) : (insT l x).length = l.length + 1 := by
  have := (insT_perm l x).length_eq
  simpa using this
theorem srt_len (t : List Sh) (k : Nat) (h : k ≤ t.length) : (srtT (t.take k)).length = k := by
  rw [(srtT_perm _).length_eq, List.length_take, Nat.min_eq_left h]
theorem srt_step {t : List Sh} {k : Nat} (h : k < t.length) : srtT (t.take (k + 1)) = insT (srtT (t.take k)) t[k] := by
  unfold srtT
  rw [List.take_succ_eq_append_getElem h, List.foldl_append]
  rfl
theorem sorted_c (t : List Sh) (ht : t.length ≤ 100000) : Fn Zs 46 [encT t] (encT (srtT t)) := by
  refine fn_of (Z := Zs) ok46 fun σ hcl hbl => ?_
  simp -dsimp only [L46, encT, ↓preB, postB, genB, ↓reduceIte, Nat.reduceEqDiff, Int.reduceToNat, Int.reduceLE, Int.reduceLT, Nat.reduceAdd, Nat.reduceLeDiff, intBin, strBin, unD, extractD, lit1, lit2, lit3, keptD, boxR, D.one, D.pub1, D.cells, splice, cutOwn]
  refine pwp_loopG (fun k env s => k ≤ t.length ∧ Acc 46 2 σ k (rowsD (srtT (t.take k))) (env 3) s ∧ env 4 = .int .i64 (k:Nat) ∧ env 0 = encT t) (fun k => t.length - k) 0 ?_ ?_
  · simp only [upd_apply, envOf_apply, encT, Nat.reduceEqDiff, if_true, if_false]
    exact ⟨Nat.zero_le _, Acc.nil (HLe.refl _), rfl, rfl⟩
  · rintro k env s ⟨hk, hA, h4, h0⟩
    rcases Nat.lt_or_ge k t.length with hlt | hge
    · have hd := rowsD_at hlt
      have hpos : 0 < (rowsD t).length := by rw [rowsD_len]; omega
      have hol := srt_len t k hk
      have hst := srt_step hlt
      obtain ⟨o, h3⟩ := hA.is
      generalize srtT (t.take k) = out at *
      generalize hx : t[k] = x at *
      have hrl := rowsD_len out
      rw [hol] at hrl
      simp -dsimp only [h4, h3, h0, encT, hlt, hd, hpos, ↓preB, postB, genB, ↓reduceIte, Nat.reduceEqDiff, Int.reduceToNat, Int.reduceLE, Int.reduceLT, Nat.reduceAdd, Nat.reduceLeDiff, intBin, strBin, unD, extractD, lit1, lit2, lit3, keptD, boxR, D.one, D.pub1, D.cells, splice, cutOwn]
      intro _ _
      refine pwp_loopG (fun n env' s' => n ≤ k ∧ insAt out x n = insAt out x out.length ∧ s' = s ∧ env' 3 = env 3 ∧ env' 4 = .int .i64 (k:Nat) ∧ env' 5 = .int .i64 (n:Nat) ∧ env' 0 = encT t) (fun n => n) k ?_ ?_
      · simp only [upd_apply, Nat.reduceEqDiff, if_true, if_false]
        exact ⟨Nat.le_refl _, by rw [hol], trivial, trivial, h4, trivial, h0⟩
      · rintro n env' s' ⟨hnk, hI, rfl, g3, g4, g5, g0⟩
        rw [h3] at g3
        have fin : insAt out x n = n → True := fun _ => trivial
        by_cases hn : n = 0
        · subst hn
          have c1 : ¬ (0 : Int) < ((0 : Nat) : Int) := by omega
          have hat : insAt out x out.length = 0 := by rw [← hI]; rfl
          simp -dsimp only [g0, g3, g4, g5, h4, h3, h0, encT, hlt, hd, hpos, c1, ↓preB, postB, genB, ↓reduceIte, Nat.reduceEqDiff, Int.reduceToNat, Int.reduceLE, Int.reduceLT, Nat.reduceAdd, Nat.reduceLeDiff, intBin, strBin, unD, extractD, lit1, lit2, lit3, keptD, boxR, D.one, D.pub1, D.cells, splice, cutOwn]
          refine draw_s ?_
          simp -dsimp only [g0, g3, g4, g5, h4, h3, h0, encT, hlt, hd, hpos, c1, gate, decide_false, bs22_0, show (false == true) = false from rfl, ↓preB, postB, genB, ↓reduceIte, Nat.reduceEqDiff, Int.reduceToNat, Int.reduceLE, Int.reduceLT, Nat.reduceAdd, Nat.reduceLeDiff, intBin, strBin, unD, extractD, lit1, lit2, lit3, keptD, boxR, D.one, D.pub1, D.cells, splice, cutOwn]
          refine ⟨⟨by omega, by omega, hrl⟩, ?_⟩
          have hA0 : Acc 46 2 σ 0 [] (.sl .full 0 []) s' := Acc.full hA.le
          refine hA0.append hcl tz22 rfl tz46 rfl rfl rfl (by decide) (by simp) (fedBy_sl tz22 rfl (by show _ = _ * 2; simp only [List.length_take, List.length_drop]; omega)) (by simp only []; omega) (by simp only [big]; omega) fun d1 s1 hA1 => ?_
          have hA1 : Acc 46 2 σ 0 (rowsD (out.take 0)) d1 s1 := by simpa [← rowsD_take, show rowsD [] = ([] : List D) from rfl] using hA1
          simp -dsimp only [g0, g3, g4, g5, h4, h3, h0, hx, encT, hlt, hd, hpos, bs22, encSS, ↓preB, postB, genB, ↓reduceIte, Nat.reduceEqDiff, Int.reduceToNat, Int.reduceLE, Int.reduceLT, Nat.reduceAdd, Nat.reduceLeDiff, intBin, strBin, unD, extractD, lit1, lit2, lit3, keptD, boxR, D.one, D.pub1, D.cells, splice, cutOwn]
          refine hA1.append hcl tz22 rfl tz46 rfl rfl rfl (by decide) (by show _ = _ * 2; rw [rowsD_len, List.length_take]; omega) (fedBy_sl (m := 1) tz22 rfl rfl) (by simp only []; omega) (by simp only [big]; omega) fun d2 s2 hA2 => ?_
          simp -dsimp only [g0, g3, g4, g5, h4, h3, h0, hx, encT, hlt, hd, hpos, encSS, ↓preB, postB, genB, ↓reduceIte, Nat.reduceEqDiff, Int.reduceToNat, Int.reduceLE, Int.reduceLT, Nat.reduceAdd, Nat.reduceLeDiff, intBin, strBin, unD, extractD, lit1, lit2, lit3, keptD, boxR, D.one, D.pub1, D.cells, splice, cutOwn]
          refine ⟨⟨by omega, by omega, by omega⟩, ?_⟩
          refine hA2.append hcl tz22 rfl tz46 rfl rfl rfl (by decide) (by show _ = _ * 2; rw [List.length_append, rowsD_len, List.length_take]; simp only [List.length_cons, List.length_nil]; omega) (fedBy_sl tz22 rfl (by show _ = _ * 2; simp only [List.length_take, List.length_drop]; omega)) (by simp only []; omega) (by simp only [big]; omega) fun d3 s3 hA3 => ?_
          simp -dsimp only [g0, g3, g4, g5, h4, h3, h0, hx, encT, hlt, hd, hpos, encSS, ↓preB, postB, genB, ↓reduceIte, Nat.reduceEqDiff, Int.reduceToNat, Int.reduceLE, Int.reduceLT, Nat.reduceAdd, Nat.reduceLeDiff, intBin, strBin, unD, extractD, lit1, lit2, lit3, keptD, boxR, D.one, D.pub1, D.cells, splice, cutOwn]
          have e2 : List.take ((k - 0) * 2) (List.drop (0 * 2) (rowsD out)) = rowsD (out.drop 0) := by
            rw [rowsD_drop, List.take_of_length_le (by rw [rowsD_len, List.length_drop]; omega)]
          have hA4 : Acc 46 2 σ (k + 1) (rowsD (insT out x)) d3 s3 := by
            rw [e2, show 0 + 1 + (k - 0) = k + 1 by omega] at hA3
            rw [insT, hat, rowsD_append, rowsD]
            simpa [encSS] using hA3
          exact ⟨k + 1, ⟨by omega, by rw [hst]; exact hA4, wrap64_succ (by simp only [big]; omega)⟩, by omega⟩
        · obtain ⟨m, rfl⟩ : ∃ m, n = m + 1 := ⟨n - 1, by omega⟩
          have hml : m < out.length := by omega
          have hdm := rowsD_at hml
          have hposm : 0 < (rowsD out).length := by omega
          have c1 : (0 : Int) < ((m + 1 : Nat) : Int) := by omega
          have hw : IntKind.i64.wrap (((m + 1 : Nat) : Int) - 1) = (m : Int) := by rw [wrap64_in (by omega) (by omega)]; omega
          have hxm : out[m]? = some out[m] := List.getElem?_eq_getElem hml
          have hmk : m < k := by omega
          simp -dsimp only [g0, g3, g4, g5, h4, h3, h0, encT, hlt, hd, hpos, c1, hw, ↓preB, postB, genB, ↓reduceIte, Nat.reduceEqDiff, Int.reduceToNat, Int.reduceLE, Int.reduceLT, Nat.reduceAdd, Nat.reduceLeDiff, intBin, strBin, unD, extractD, lit1, lit2, lit3, keptD, boxR, D.one, D.pub1, D.cells, splice, cutOwn]
          refine draw_s ?_
          simp -dsimp only [g0, g3, g4, g5, h4, h3, h0, encT, hlt, hd, hpos, c1, hw, hmk, hdm, hposm, gate, decide_true, show (true == true) = true from rfl, ↓preB, postB, genB, ↓reduceIte, Nat.reduceEqDiff, Int.reduceToNat, Int.reduceLE, Int.reduceLT, Nat.reduceAdd, Nat.reduceLeDiff, intBin, strBin, unD, extractD, lit1, lit2, lit3, keptD, boxR, D.one, D.pub1, D.cells, splice, cutOwn]
          refine Fn.useS (Order_c _ _) ?_
          by_cases hord : 0 < ordW out[m].From x.From
          · simp -dsimp only [g0, g3, g4, g5, h4, h3, h0, encT, hlt, hd, hpos, c1, hw, hord, gate, decide_true, show (true == true) = true from rfl, ↓preB, postB, genB, ↓reduceIte, Nat.reduceEqDiff, Int.reduceToNat, Int.reduceLE, Int.reduceLT, Nat.reduceAdd, Nat.reduceLeDiff, intBin, strBin, unD, extractD, lit1, lit2, lit3, keptD, boxR, D.one, D.pub1, D.cells, splice, cutOwn]
            have hI2 : insAt out x m = insAt out x out.length := by
              rw [← hI, insAt, hxm]
              simp only [hord, if_true]
            exact ⟨m, ⟨by omega, hI2, rfl⟩, by omega⟩
          · have hat : insAt out x out.length = m + 1 := by
              rw [← hI, insAt, hxm]
              simp only [hord, if_false]
            simp -dsimp only [g0, g3, g4, g5, h4, h3, h0, encT, hlt, hd, hpos, c1, hw, hord, gate, decide_true, decide_false, bs22_0, show (true == true) = true from rfl, ↓preB, postB, genB, ↓reduceIte, Nat.reduceEqDiff, Int.reduceToNat, Int.reduceLE, Int.reduceLT, Nat.reduceAdd, Nat.reduceLeDiff, intBin, strBin, unD, extractD, lit1, lit2, lit3, keptD, boxR, D.one, D.pub1, D.cells, splice, cutOwn]
            refine ⟨⟨by omega, by omega, hrl⟩, ?_⟩
            have hA0 : Acc 46 2 σ 0 [] (.sl .full 0 []) s' := Acc.full hA.le
            refine hA0.append hcl tz22 rfl tz46 rfl rfl rfl (by decide) (by simp) (fedBy_sl tz22 rfl (by show _ = _ * 2; simp only [List.length_take, List.length_drop]; omega)) (by simp only []; omega) (by simp only [big]; omega) fun d1 s1 hA1 => ?_
            have hA1 : Acc 46 2 σ (m + 1) (rowsD (out.take (m + 1))) d1 s1 := by simpa [← rowsD_take, show rowsD [] = ([] : List D) from rfl] using hA1
            simp -dsimp only [g0, g3, g4, g5, h4, h3, h0, hx, encT, hlt, hd, hpos, bs22, encSS, ↓preB, postB, genB, ↓reduceIte, Nat.reduceEqDiff, Int.reduceToNat, Int.reduceLE, Int.reduceLT, Nat.reduceAdd, Nat.reduceLeDiff, intBin, strBin, unD, extractD, lit1, lit2, lit3, keptD, boxR, D.one, D.pub1, D.cells, splice, cutOwn]
            refine hA1.append hcl tz22 rfl tz46 rfl rfl rfl (by decide) (by show _ = _ * 2; rw [rowsD_len, List.length_take]; omega) (fedBy_sl (m := 1) tz22 rfl rfl) (by simp only []; omega) (by simp only [big]; omega) fun d2 s2 hA2 => ?_
            simp -dsimp only [g0, g3, g4, g5, h4, h3, h0, hx, encT, hlt, hd, hpos, encSS, ↓preB, postB, genB, ↓reduceIte, Nat.reduceEqDiff, Int.reduceToNat, Int.reduceLE, Int.reduceLT, Nat.reduceAdd, Nat.reduceLeDiff, intBin, strBin, unD, extractD, lit1, lit2, lit3, keptD, boxR, D.one, D.pub1, D.cells, splice, cutOwn]
            refine ⟨⟨by omega, by omega, by omega⟩, ?_⟩
            refine hA2.append hcl tz22 rfl tz46 rfl rfl rfl (by decide) (by show _ = _ * 2; rw [List.length_append, rowsD_len, List.length_take]; simp only [List.length_cons, List.length_nil]; omega) (fedBy_sl tz22 rfl (by show _ = _ * 2; simp only [List.length_take, List.length_drop]; omega)) (by simp only []; omega) (by simp only [big]; omega) fun d3 s3 hA3 => ?_
            simp -dsimp only [g0, g3, g4, g5, h4, h3, h0, hx, encT, hlt, hd, hpos, encSS, ↓preB, postB, genB, ↓reduceIte, Nat.reduceEqDiff, Int.reduceToNat, Int.reduceLE, Int.reduceLT, Nat.reduceAdd, Nat.reduceLeDiff, intBin, strBin, unD, extractD, lit1, lit2, lit3, keptD, boxR, D.one, D.pub1, D.cells, splice, cutOwn]
            have e2 : List.take ((k - (m + 1)) * 2) (List.drop ((m + 1) * 2) (rowsD out)) = rowsD (out.drop (m + 1)) := by
              rw [rowsD_drop, List.take_of_length_le (by rw [rowsD_len, List.length_drop]; omega)]
            have hA4 : Acc 46 2 σ (k + 1) (rowsD (insT out x)) d3 s3 := by
              rw [e2, show (m + 1) + 1 + (k - (m + 1)) = k + 1 by omega] at hA3
              rw [insT, hat, rowsD_append, rowsD]
              simpa [encSS] using hA3
            exact ⟨k + 1, ⟨by omega, by rw [hst]; exact hA4, wrap64_succ (by simp only [big]; omega)⟩, by omega⟩
    · have hkl : k = t.length := by omega
      subst hkl
      rw [List.take_length] at hA
      simp -dsimp only [h4, h0, encT, Nat.lt_irrefl, ↓preB, postB, genB, ↓reduceIte, Nat.reduceEqDiff, Int.reduceToNat, Int.reduceLE, Int.reduceLT, Nat.reduceAdd, Nat.reduceLeDiff, intBin, strBin, unD, extractD, lit1, lit2, lit3, keptD, boxR, D.one, D.pub1, D.cells, splice, cutOwn]
      intro _
      have hl : (srtT t).length = t.length := (srtT_perm t).length_eq
      refine Ret.less hA.le hcl ?_ (.no (bel_rowsD _))
      rw [hl]
      exact hA.told
theorem encSS_map (L : List (List UInt8)) : encSS (L.map toB) = .sl .no L.length (L.map fun y => .str (toB y)) := by
  simp [encSS, List.map_map, Function.comp_def]
theorem last_of {L : List (List UInt8)} (h : L ≠ []) : ∃ x, L.getLast? = some x ∧ L[L.length - 1]? = some x := by
  refine ⟨L.getLast h, List.getLast?_eq_some_getLast h, ?_⟩
  rw [← List.getLast?_eq_getElem?]
  exact List.getLast?_eq_some_getLast h
set_option maxHeartbeats 4000000 in
theorem refReadT_c (l : List UInt8) (hs : l.length ≤ 100000) : Fn Zs 17 [.str (toB l)] (encRd (readR (toB l))) := by
  refine fn_of (Z := Zs) ok17 fun σ hcl hbl => ?_
  simp -dsimp only [L17, ↓preB, postB, genB, ↓reduceIte, Nat.reduceEqDiff, Int.reduceToNat, Int.reduceLE, Int.reduceLT, Nat.reduceAdd, Nat.reduceLeDiff, intBin, strBin, unD, extractD, lit1, lit2, lit3, keptD, boxR, D.one, D.pub1, D.cells, splice, cutOwn]
  have hsz := toB_size l
  have belT : ∀ (N : Nat) (o : List Sh), Bel N (encT o) := fun N o => .no (bel_rowsD _)
  have bad : ∀ (n e : Int) (s : Heap), HLe σ s → readR (toB l) = ([], n, e) → Ret σ (fun d τ => d = encRd (readR (toB l)) ∧ τ = σ) (.tup [.sl .nil 0 [], .int .i64 n, .int .i64 e]) s := fun n e s hle h => by
    rw [h]
    exact Ret.less hle hcl (.tup3 told_nilT (.refl _) (.refl _)) (.tup3 (belT _ _) (.int _ _) (.int _ _))
  by_cases hbig : 6000 < l.length
  · have c1 : (6000 : Int) < l.length := by omega
    simp -dsimp only [hsz, c1, ↓preB, postB, genB, ↓reduceIte, Nat.reduceEqDiff, Int.reduceToNat, Int.reduceLE, Int.reduceLT, Nat.reduceAdd, Nat.reduceLeDiff, intBin, strBin, unD, extractD, lit1, lit2, lit3, keptD, boxR, D.one, D.pub1, D.cells, splice, cutOwn]
    intros
    exact bad 0 3 _ (HLe.refl _) (by unfold readR; rw [if_pos (by rw [toB_size]; exact hbig)])
  have c1 : ¬ (6000 : Int) < l.length := by omega
  have hgo := readR_go (l := l) (by omega)
  simp -dsimp only [hsz, c1, ↓preB, postB, genB, ↓reduceIte, Nat.reduceEqDiff, Int.reduceToNat, Int.reduceLE, Int.reduceLT, Nat.reduceAdd, Nat.reduceLeDiff, intBin, strBin, unD, extractD, lit1, lit2, lit3, keptD, boxR, D.one, D.pub1, D.cells, splice, cutOwn]
  intro _
  have hcut := refCut_c l 10 hs
  rw [show ((10 : UInt8).toNat : Int) = 10 from rfl] at hcut
  refine Fn.use hcut ?_
  have hCne := cutL_ne 10 l
  obtain ⟨hCl, hCp⟩ := cutL_pieces 10 _ l (Nat.le_refl _)
  obtain ⟨y, hy1, hy2⟩ := last_of hCne
  have hlin : linesL 10 l = dropE (cutL 10 l) := rfl
  have hCpos := List.length_pos_iff.2 hCne
  rw [encSS_map]
  generalize cutL 10 l = C at *
  have hwn : IntKind.i64.wrap ((C.length : Int) - 1) = ((C.length - 1 : Nat) : Int) := by rw [wrap64_in (by omega) (by omega)]; omega
  have hlt0 : C.length - 1 < C.length := by omega
  have hdr : ((C.map fun y => D.str (toB y)).drop (C.length - 1))[0]? = some (.str (toB y)) := by
    rw [List.getElem?_drop, Nat.add_zero, List.getElem?_map, hy2]; rfl
  have hLlen : (linesL 10 l).length ≤ C.length := by
    rw [hlin]; unfold dropE; split <;> simp
  have hLp : ∀ x ∈ linesL 10 l, x.length ≤ l.length := fun x hx => hCp x (by
    rw [hlin] at hx
    unfold dropE at hx
    split at hx
    · exact List.dropLast_subset _ hx
    · exact hx)
  have hc : (toB y == (⟨#[]⟩ : ByteArray)) = decide (y = []) := by rw [← toB_nil]; exact toB_beq _ _
  have hsplit : (y = [] ∧ (linesL 10 l).map (fun y => D.str (toB y)) = (C.map fun y => D.str (toB y)).take (C.length - 1 - 0) ∧ (linesL 10 l).length = C.length - 1) ∨ (y ≠ [] ∧ linesL 10 l = C) := by
    by_cases hy : y = []
    · refine .inl ⟨hy, ?_, ?_⟩
      · rw [hlin, dropE, if_pos (by rw [hy1, hy]), Nat.sub_zero, ← List.map_take, List.dropLast_eq_take]
      · rw [hlin, dropE, if_pos (by rw [hy1, hy]), List.length_dropLast]
    · refine .inr ⟨hy, ?_⟩
      rw [hlin, dropE, if_neg (by rw [hy1]; simpa using hy)]
  clear hlin hCp hcut hy1
  generalize linesL 10 l = L at *
  rcases hsplit with ⟨hy, hdE, hdl⟩ | ⟨hy, hdE⟩
  rw [decide_eq_true hy] at hc
  simp -dsimp only [hwn, hlt0, hdr, hc, List.length_map, ↓preB, postB, genB, ↓reduceIte, Nat.reduceEqDiff, Int.reduceToNat, Int.reduceLE, Int.reduceLT, Nat.reduceAdd, Nat.reduceLeDiff, intBin, strBin, unD, extractD, lit1, lit2, lit3, keptD, boxR, D.one, D.pub1, D.cells, splice, cutOwn]
  intro _
  refine ⟨hCpos, fun _ => ⟨⟨by omega, by omega⟩, ?_⟩⟩
  rw [← hdE, Nat.sub_zero, ← hdl]
  rotate_left
  rw [decide_eq_false hy] at hc
  simp -dsimp only [hwn, hlt0, hdr, hc, List.length_map, ↓preB, postB, genB, ↓reduceIte, Nat.reduceEqDiff, Int.reduceToNat, Int.reduceLE, Int.reduceLT, Nat.reduceAdd, Nat.reduceLeDiff, intBin, strBin, unD, extractD, lit1, lit2, lit3, keptD, boxR, D.one, D.pub1, D.cells, splice, cutOwn]
  intro _
  refine ⟨hCpos, ?_⟩
  rw [← hdE]
  all_goals
    refine pwp_loopG (fun (x : Nat × List Sh × Bool) env s => (x.1 ≤ L.length ∧ goR (L.drop x.1) x.1 x.2.1 x.2.2 = goR L 0 [] false ∧ x.2.1.length ≤ x.1) ∧
      Acc 46 2 σ x.2.1.length (rowsD x.2.1) (env 6) s ∧ env 7 = .bool x.2.2 ∧ env 8 = .int .i64 (x.1:Nat) ∧ env 5 = .sl .no L.length (L.map fun y => D.str (toB y))) (fun x => L.length - x.1) (0, [], false) ?_ ?_
    · simp only [upd_apply, envOf_apply, Nat.reduceEqDiff, if_true, if_false]
      exact ⟨⟨Nat.zero_le _, by trivial, by trivial⟩, Acc.nil (HLe.refl _), by trivial, by trivial, by trivial⟩
    · rintro ⟨i, done, large⟩ env s ⟨⟨hiL, hI, hdi⟩, hA, h7, h8, h5⟩
      simp only at hI hiL hdi hA h7 h8
      rcases Nat.lt_or_ge i L.length with hlt | hge
      · have hx : L[i]? = some L[i] := List.getElem?_eq_getElem hlt
        have hdi2 : ((L.map fun y => D.str (toB y)).drop i)[0]? = some (.str (toB L[i])) := by
          rw [List.getElem?_drop, Nat.add_zero, List.getElem?_map, hx]; rfl
        have hLi := hLp _ (List.getElem_mem hlt)
        rw [List.drop_eq_getElem_cons hlt, goR] at hI
        generalize L[i] = line at *
        have hn : (i : Int) < L.length := by omega
        simp -dsimp only [h5, h7, h8, hn, hlt, hdi2, List.length_map, ↓preB, postB, genB, ↓reduceIte, Nat.reduceEqDiff, Int.reduceToNat, Int.reduceLE, Int.reduceLT, Nat.reduceAdd, Nat.reduceLeDiff, intBin, strBin, unD, extractD, lit1, lit2, lit3, keptD, boxR, D.one, D.pub1, D.cells, splice, cutOwn]
        intro _
        refine ⟨by omega, ?_⟩
        have hcut2 := refCut_c line 32 (by omega)
        rw [show ((32 : UInt8).toNat : Int) = 32 from rfl] at hcut2
        refine Fn.use hcut2 ?_
        rw [encSS_map]
        have err : rowL done line = none → readR (toB l) = ([], (i : Int), 2) := fun h => by
          rw [h] at hI
          rw [hgo, ← hI]
        by_cases h3 : (cutL 32 line).length = 3
        · obtain ⟨a, m, c, hP⟩ := three h3
          have ha := pieces_le (b := 32) (x := line) (y := a) (by rw [hP]; simp)
          have hc2 := pieces_le (b := 32) (x := line) (y := c) (by rw [hP]; simp)
          have hrow := rowL_three (done := done) hP
          rw [hP]
          have e3 : (((3 : Nat) : Int) != 3) = false := rfl
          by_cases hm : m = [61]
          · subst hm
            have e1 : (toB [61] == (⟨#[61]⟩ : ByteArray)) = true := rfl
            simp -dsimp only [h5, h7, h8, e1, e3, List.map_cons, List.map_nil, List.length_cons, List.length_nil, gate, show (false == false) = true from rfl, ↓preB, postB, genB, ↓reduceIte, Nat.reduceEqDiff, Int.reduceToNat, Int.reduceLE, Int.reduceLT, Nat.reduceAdd, Nat.reduceLeDiff, intBin, strBin, unD, extractD, lit1, lit2, lit3, keptD, boxR, D.one, D.pub1, D.cells, splice, cutOwn]
            intros
            refine ⟨⟨by decide, by decide⟩, ⟨by decide, by decide⟩, Fn.use (refRead_c a (by omega)) ?_⟩
            simp -dsimp only [h5, h7, h8, e1, e3, ↓preB, postB, genB, ↓reduceIte, Nat.reduceEqDiff, Int.reduceToNat, Int.reduceLE, Int.reduceLT, Nat.reduceAdd, Nat.reduceLeDiff, intBin, strBin, unD, extractD, lit1, lit2, lit3, keptD, boxR, D.one, D.pub1, D.cells, splice, cutOwn]
            refine ⟨⟨by decide, by decide⟩, Fn.use (refRead_c c (by omega)) ?_⟩
            have la := rdW_len (toB a)
            have lc := rdW_len (toB c)
            rw [toB_size] at la lc
            have hza := toB_size a
            have hzc := toB_size c
            generalize rdW (toB a) = pa at *
            generalize rdW (toB c) = pc at *
            obtain ⟨wa, oa⟩ := pa
            obtain ⟨wc, oc⟩ := pc
            simp only at la lc hrow
            simp -dsimp only [h5, h7, h8, e1, e3, ↓preB, postB, genB, ↓reduceIte, Nat.reduceEqDiff, Int.reduceToNat, Int.reduceLE, Int.reduceLT, Nat.reduceAdd, Nat.reduceLeDiff, intBin, strBin, unD, extractD, lit1, lit2, lit3, keptD, boxR, D.one, D.pub1, D.cells, splice, cutOwn]
            obtain ⟨o6, h6⟩ := hA.is
            refine pwp_loopG (fun k env' s' => k ≤ done.length ∧ s' = s ∧ env' 11 = .bool (oa && !((done.take k).any fun r => eqW r.From wa)) ∧ env' 14 = .int .i64 (k:Nat) ∧ env' 5 = env 5 ∧ env' 6 = env 6 ∧ env' 7 = env 7 ∧ env' 8 = env 8 ∧ env' 9 = .sl .no 3 [.str (toB a), .str (toB [61]), .str (toB c)] ∧ env' 10 = encSS wa ∧ env' 12 = encSS wc ∧ env' 13 = .bool oc) (fun k => done.length - k) 0 ?_ ?_
            · simp only [upd_apply, Nat.reduceEqDiff, if_true, if_false]
              exact ⟨Nat.zero_le _, by trivial, by simp, by simp⟩
            · rintro k env' s' ⟨hk, rfl, g11, g14, g5, g6, g7, g8, g9, g10, g12, g13⟩
              rw [h6] at g6
              rcases Nat.lt_or_ge k done.length with hkl | hkg
              · have hd := rowsD_at hkl
                have hpos : 0 < (rowsD done).length := by rw [rowsD_len]; omega
                have hn2 : (k : Int) < done.length := by omega
                have hany : (done.take (k + 1)).any (fun r => eqW r.From wa) = ((done.take k).any (fun r => eqW r.From wa) || eqW done[k].From wa) := by
                  rw [List.take_succ_eq_append_getElem hkl, List.any_append]; simp
                cases hok : (oa && !((done.take k).any fun r => eqW r.From wa))
                · rw [hok] at g11
                  simp -dsimp only [g5, g6, g7, g8, g9, g10, g11, g12, g13, g14, hn2, hkl, gate, show (false == true) = false from rfl, ↓preB, postB, genB, ↓reduceIte, Nat.reduceEqDiff, Int.reduceToNat, Int.reduceLE, Int.reduceLT, Nat.reduceAdd, Nat.reduceLeDiff, intBin, strBin, unD, extractD, lit1, lit2, lit3, keptD, boxR, D.one, D.pub1, D.cells, splice, cutOwn]
                  intro _
                  refine ⟨k + 1, ⟨by omega, ?_, wrap64_succ (k := k) (by simp only [big]; omega), h6.symm⟩, by omega⟩
                  rw [hany]
                  cases oa
                  · rfl
                  · simp only [Bool.true_and] at hok ⊢
                    have : (done.take k).any (fun r => eqW r.From wa) = true := by simpa using hok
                    rw [this]; rfl
                · rw [hok] at g11
                  simp -dsimp only [g5, g6, g7, g8, g9, g10, g11, g12, g13, g14, hn2, hkl, hd, hpos, gate, show (true == true) = true from rfl, ↓preB, postB, genB, ↓reduceIte, Nat.reduceEqDiff, Int.reduceToNat, Int.reduceLE, Int.reduceLT, Nat.reduceAdd, Nat.reduceLeDiff, intBin, strBin, unD, extractD, lit1, lit2, lit3, keptD, boxR, D.one, D.pub1, D.cells, splice, cutOwn]
                  intro _
                  refine Fn.use (Same_c done[k].From wa) ?_
                  simp -dsimp only [g5, g6, g7, g8, g9, g10, g11, g12, g13, g14, hn2, hkl, hd, hpos, gate, show (true == true) = true from rfl, ↓preB, postB, genB, ↓reduceIte, Nat.reduceEqDiff, Int.reduceToNat, Int.reduceLE, Int.reduceLT, Nat.reduceAdd, Nat.reduceLeDiff, intBin, strBin, unD, extractD, lit1, lit2, lit3, keptD, boxR, D.one, D.pub1, D.cells, splice, cutOwn]
                  refine ⟨k + 1, ⟨by omega, ?_, wrap64_succ (k := k) (by simp only [big]; omega), h6.symm⟩, by omega⟩
                  rw [hany]
                  simp only [Bool.and_eq_true] at hok
                  obtain ⟨rfl, hok2⟩ := hok
                  have : (done.take k).any (fun r => eqW r.From wa) = false := by simpa using hok2
                  rw [this]; simp
              · have hn2 : ¬ (k : Int) < done.length := by omega
                have hkd : k = done.length := by omega
                rw [hkd, List.take_length] at g11
                have hrl := rowsD_len done
                rw [h6] at hA
                rw [h7] at g7
                rw [h8] at g8
                rw [h5] at g5
                cases oa
                case false =>
                  simp only [Bool.false_and] at g11
                  rw [if_neg (by simp)] at hrow
                  simp -dsimp only [g5, g6, g7, g8, g9, g10, g11, g12, g13, g14, hn2, gate, Bool.not_false, Bool.not_true, show (true == false) = false from rfl, show (false == false) = true from rfl, ↓preB, postB, genB, ↓reduceIte, Nat.reduceEqDiff, Int.reduceToNat, Int.reduceLE, Int.reduceLT, Nat.reduceAdd, Nat.reduceLeDiff, intBin, strBin, unD, extractD, lit1, lit2, lit3, keptD, boxR, D.one, D.pub1, D.cells, splice, cutOwn]
                  intro _
                  exact bad _ _ _ hA.le (err hrow)
                cases hh : done.any fun r => eqW r.From wa
                case true =>
                  have hh2 : hasF done wa = true := hh
                  rw [hh] at g11
                  simp only [Bool.true_and, Bool.not_true] at g11
                  rw [if_neg (by simp [hh2])] at hrow
                  simp -dsimp only [g5, g6, g7, g8, g9, g10, g11, g12, g13, g14, hn2, gate, Bool.not_false, Bool.not_true, show (true == false) = false from rfl, show (false == false) = true from rfl, ↓preB, postB, genB, ↓reduceIte, Nat.reduceEqDiff, Int.reduceToNat, Int.reduceLE, Int.reduceLT, Nat.reduceAdd, Nat.reduceLeDiff, intBin, strBin, unD, extractD, lit1, lit2, lit3, keptD, boxR, D.one, D.pub1, D.cells, splice, cutOwn]
                  intro _
                  exact bad _ _ _ hA.le (err hrow)
                rw [hh] at g11
                simp only [Bool.true_and, Bool.not_false] at g11
                have hh2 : hasF done wa = false := hh
                cases oc
                case false =>
                  rw [if_neg (by simp)] at hrow
                  simp -dsimp only [g5, g6, g7, g8, g9, g10, g11, g12, g13, g14, hn2, gate, Bool.not_false, Bool.not_true, show (true == false) = false from rfl, show (false == false) = true from rfl, ↓preB, postB, genB, ↓reduceIte, Nat.reduceEqDiff, Int.reduceToNat, Int.reduceLE, Int.reduceLT, Nat.reduceAdd, Nat.reduceLeDiff, intBin, strBin, unD, extractD, lit1, lit2, lit3, keptD, boxR, D.one, D.pub1, D.cells, splice, cutOwn]
                  intro _
                  exact bad _ _ _ hA.le (err hrow)
                rw [if_pos ⟨trivial, rfl, rfl, hh2⟩] at hrow
                rw [hrow] at hI
                simp only at hI
                cases large
                case true =>
                  have hG : (true || (decide (400 < max a.length c.length) || decide (60 < max wa.length wc.length))) = true := rfl
                  rw [hG] at hI
                  simp -dsimp only [g5, g6, g7, g8, g9, g10, g11, g12, g13, g14, hn2, hza, hzc, encSS, ab46, bs22, gate, decide_true, decide_false, Bool.not_false, Bool.not_true, show (true == false) = false from rfl, show (false == false) = true from rfl, ↓preB, postB, genB, ↓reduceIte, Nat.reduceEqDiff, Int.reduceToNat, Int.reduceLE, Int.reduceLT, Nat.reduceAdd, Nat.reduceLeDiff, intBin, strBin, unD, extractD, lit1, lit2, lit3, keptD, boxR, D.one, D.pub1, D.cells, splice, cutOwn]
                  repeat (first | refine ⟨⟨by decide, by decide⟩, ?_⟩ | intro _)
                  refine hA.append hcl tz22 rfl tz46 rfl rfl rfl (by decide) hrl (fedBy_sl (m := 1) tz22 rfl rfl) (by simp only []; omega) (by simp only [big]; omega) fun d2 s2 hA2 => ?_
                  simp -dsimp only [g5, g6, g7, g8, g9, g10, g11, g12, g13, g14, hn2, ↓preB, postB, genB, ↓reduceIte, Nat.reduceEqDiff, Int.reduceToNat, Int.reduceLE, Int.reduceLT, Nat.reduceAdd, Nat.reduceLeDiff, intBin, strBin, unD, extractD, lit1, lit2, lit3, keptD, boxR, D.one, D.pub1, D.cells, splice, cutOwn]
                  refine ⟨(i + 1, done ++ [⟨wa, wc⟩], true), ⟨⟨by simp only []; omega, hI, by simp only [List.length_append, List.length_singleton]; omega⟩, ?_, by trivial, wrap64_succ (k := i) (by simp only [big]; omega)⟩, by simp only []; omega⟩
                  simp only [List.length_append, List.length_singleton, rowsD_append]
                  exact hA2
                by_cases b1 : (400 : Int) < a.length
                · have hG : (false || (decide (400 < max a.length c.length) || decide (60 < max wa.length wc.length))) = true := by simp only [Bool.false_or, Bool.or_eq_true, decide_eq_true_eq]; omega
                  rw [hG] at hI
                  simp -dsimp only [g5, g6, g7, g8, g9, g10, g11, g12, g13, g14, hn2, hza, hzc, encSS, ab46, bs22, b1, gate, decide_true, decide_false, Bool.not_false, Bool.not_true, show (true == false) = false from rfl, show (false == false) = true from rfl, ↓preB, postB, genB, ↓reduceIte, Nat.reduceEqDiff, Int.reduceToNat, Int.reduceLE, Int.reduceLT, Nat.reduceAdd, Nat.reduceLeDiff, intBin, strBin, unD, extractD, lit1, lit2, lit3, keptD, boxR, D.one, D.pub1, D.cells, splice, cutOwn]
                  repeat (first | refine ⟨⟨by decide, by decide⟩, ?_⟩ | intro _)
                  refine hA.append hcl tz22 rfl tz46 rfl rfl rfl (by decide) hrl (fedBy_sl (m := 1) tz22 rfl rfl) (by simp only []; omega) (by simp only [big]; omega) fun d2 s2 hA2 => ?_
                  simp -dsimp only [g5, g6, g7, g8, g9, g10, g11, g12, g13, g14, hn2, ↓preB, postB, genB, ↓reduceIte, Nat.reduceEqDiff, Int.reduceToNat, Int.reduceLE, Int.reduceLT, Nat.reduceAdd, Nat.reduceLeDiff, intBin, strBin, unD, extractD, lit1, lit2, lit3, keptD, boxR, D.one, D.pub1, D.cells, splice, cutOwn]
                  refine ⟨(i + 1, done ++ [⟨wa, wc⟩], true), ⟨⟨by simp only []; omega, hI, by simp only [List.length_append, List.length_singleton]; omega⟩, ?_, by trivial, wrap64_succ (k := i) (by simp only [big]; omega)⟩, by simp only []; omega⟩
                  simp only [List.length_append, List.length_singleton, rowsD_append]
                  exact hA2
                by_cases b2 : (400 : Int) < c.length
                · have hG : (false || (decide (400 < max a.length c.length) || decide (60 < max wa.length wc.length))) = true := by simp only [Bool.false_or, Bool.or_eq_true, decide_eq_true_eq]; omega
                  rw [hG] at hI
                  simp -dsimp only [g5, g6, g7, g8, g9, g10, g11, g12, g13, g14, hn2, hza, hzc, encSS, ab46, bs22, b1, b2, gate, decide_true, decide_false, Bool.not_false, Bool.not_true, show (true == false) = false from rfl, show (false == false) = true from rfl, ↓preB, postB, genB, ↓reduceIte, Nat.reduceEqDiff, Int.reduceToNat, Int.reduceLE, Int.reduceLT, Nat.reduceAdd, Nat.reduceLeDiff, intBin, strBin, unD, extractD, lit1, lit2, lit3, keptD, boxR, D.one, D.pub1, D.cells, splice, cutOwn]
                  repeat (first | refine ⟨⟨by decide, by decide⟩, ?_⟩ | intro _)
                  refine hA.append hcl tz22 rfl tz46 rfl rfl rfl (by decide) hrl (fedBy_sl (m := 1) tz22 rfl rfl) (by simp only []; omega) (by simp only [big]; omega) fun d2 s2 hA2 => ?_
                  simp -dsimp only [g5, g6, g7, g8, g9, g10, g11, g12, g13, g14, hn2, ↓preB, postB, genB, ↓reduceIte, Nat.reduceEqDiff, Int.reduceToNat, Int.reduceLE, Int.reduceLT, Nat.reduceAdd, Nat.reduceLeDiff, intBin, strBin, unD, extractD, lit1, lit2, lit3, keptD, boxR, D.one, D.pub1, D.cells, splice, cutOwn]
                  refine ⟨(i + 1, done ++ [⟨wa, wc⟩], true), ⟨⟨by simp only []; omega, hI, by simp only [List.length_append, List.length_singleton]; omega⟩, ?_, by trivial, wrap64_succ (k := i) (by simp only [big]; omega)⟩, by simp only []; omega⟩
                  simp only [List.length_append, List.length_singleton, rowsD_append]
                  exact hA2
                by_cases b3 : (60 : Int) < wa.length
                · have hG : (false || (decide (400 < max a.length c.length) || decide (60 < max wa.length wc.length))) = true := by simp only [Bool.false_or, Bool.or_eq_true, decide_eq_true_eq]; omega
                  rw [hG] at hI
                  simp -dsimp only [g5, g6, g7, g8, g9, g10, g11, g12, g13, g14, hn2, hza, hzc, encSS, ab46, bs22, b1, b2, b3, gate, decide_true, decide_false, Bool.not_false, Bool.not_true, show (true == false) = false from rfl, show (false == false) = true from rfl, ↓preB, postB, genB, ↓reduceIte, Nat.reduceEqDiff, Int.reduceToNat, Int.reduceLE, Int.reduceLT, Nat.reduceAdd, Nat.reduceLeDiff, intBin, strBin, unD, extractD, lit1, lit2, lit3, keptD, boxR, D.one, D.pub1, D.cells, splice, cutOwn]
                  repeat (first | refine ⟨⟨by decide, by decide⟩, ?_⟩ | intro _)
                  refine hA.append hcl tz22 rfl tz46 rfl rfl rfl (by decide) hrl (fedBy_sl (m := 1) tz22 rfl rfl) (by simp only []; omega) (by simp only [big]; omega) fun d2 s2 hA2 => ?_
                  simp -dsimp only [g5, g6, g7, g8, g9, g10, g11, g12, g13, g14, hn2, ↓preB, postB, genB, ↓reduceIte, Nat.reduceEqDiff, Int.reduceToNat, Int.reduceLE, Int.reduceLT, Nat.reduceAdd, Nat.reduceLeDiff, intBin, strBin, unD, extractD, lit1, lit2, lit3, keptD, boxR, D.one, D.pub1, D.cells, splice, cutOwn]
                  refine ⟨(i + 1, done ++ [⟨wa, wc⟩], true), ⟨⟨by simp only []; omega, hI, by simp only [List.length_append, List.length_singleton]; omega⟩, ?_, by trivial, wrap64_succ (k := i) (by simp only [big]; omega)⟩, by simp only []; omega⟩
                  simp only [List.length_append, List.length_singleton, rowsD_append]
                  exact hA2
                by_cases b4 : (60 : Int) < wc.length
                · have hG : (false || (decide (400 < max a.length c.length) || decide (60 < max wa.length wc.length))) = true := by simp only [Bool.false_or, Bool.or_eq_true, decide_eq_true_eq]; omega
                  rw [hG] at hI
                  simp -dsimp only [g5, g6, g7, g8, g9, g10, g11, g12, g13, g14, hn2, hza, hzc, encSS, ab46, bs22, b1, b2, b3, b4, gate, decide_true, decide_false, Bool.not_false, Bool.not_true, show (true == false) = false from rfl, show (false == false) = true from rfl, ↓preB, postB, genB, ↓reduceIte, Nat.reduceEqDiff, Int.reduceToNat, Int.reduceLE, Int.reduceLT, Nat.reduceAdd, Nat.reduceLeDiff, intBin, strBin, unD, extractD, lit1, lit2, lit3, keptD, boxR, D.one, D.pub1, D.cells, splice, cutOwn]
                  repeat (first | refine ⟨⟨by decide, by decide⟩, ?_⟩ | intro _)
                  refine hA.append hcl tz22 rfl tz46 rfl rfl rfl (by decide) hrl (fedBy_sl (m := 1) tz22 rfl rfl) (by simp only []; omega) (by simp only [big]; omega) fun d2 s2 hA2 => ?_
                  simp -dsimp only [g5, g6, g7, g8, g9, g10, g11, g12, g13, g14, hn2, ↓preB, postB, genB, ↓reduceIte, Nat.reduceEqDiff, Int.reduceToNat, Int.reduceLE, Int.reduceLT, Nat.reduceAdd, Nat.reduceLeDiff, intBin, strBin, unD, extractD, lit1, lit2, lit3, keptD, boxR, D.one, D.pub1, D.cells, splice, cutOwn]
                  refine ⟨(i + 1, done ++ [⟨wa, wc⟩], true), ⟨⟨by simp only []; omega, hI, by simp only [List.length_append, List.length_singleton]; omega⟩, ?_, by trivial, wrap64_succ (k := i) (by simp only [big]; omega)⟩, by simp only []; omega⟩
                  simp only [List.length_append, List.length_singleton, rowsD_append]
                  exact hA2
                have hG : (false || (decide (400 < max a.length c.length) || decide (60 < max wa.length wc.length))) = false := by simp only [Bool.false_or, Bool.or_eq_false_iff, decide_eq_false_iff_not]; omega
                rw [hG] at hI
                simp -dsimp only [g5, g6, g7, g8, g9, g10, g11, g12, g13, g14, hn2, hza, hzc, encSS, ab46, bs22, b1, b2, b3, b4, gate, decide_true, decide_false, Bool.not_false, Bool.not_true, show (true == false) = false from rfl, show (false == false) = true from rfl, ↓preB, postB, genB, ↓reduceIte, Nat.reduceEqDiff, Int.reduceToNat, Int.reduceLE, Int.reduceLT, Nat.reduceAdd, Nat.reduceLeDiff, intBin, strBin, unD, extractD, lit1, lit2, lit3, keptD, boxR, D.one, D.pub1, D.cells, splice, cutOwn]
                repeat (first | refine ⟨⟨by decide, by decide⟩, ?_⟩ | intro _)
                refine hA.append hcl tz22 rfl tz46 rfl rfl rfl (by decide) hrl (fedBy_sl (m := 1) tz22 rfl rfl) (by simp only []; omega) (by simp only [big]; omega) fun d2 s2 hA2 => ?_
                simp -dsimp only [g5, g6, g7, g8, g9, g10, g11, g12, g13, g14, hn2, ↓preB, postB, genB, ↓reduceIte, Nat.reduceEqDiff, Int.reduceToNat, Int.reduceLE, Int.reduceLT, Nat.reduceAdd, Nat.reduceLeDiff, intBin, strBin, unD, extractD, lit1, lit2, lit3, keptD, boxR, D.one, D.pub1, D.cells, splice, cutOwn]
                refine ⟨(i + 1, done ++ [⟨wa, wc⟩], false), ⟨⟨by simp only []; omega, hI, by simp only [List.length_append, List.length_singleton]; omega⟩, ?_, by trivial, wrap64_succ (k := i) (by simp only [big]; omega)⟩, by simp only []; omega⟩
                simp only [List.length_append, List.length_singleton, rowsD_append]
                exact hA2
          · have e1 : (toB m == (⟨#[61]⟩ : ByteArray)) = false := by
              rw [show (⟨#[61]⟩ : ByteArray) = toB [61] from rfl, toB_beq]; exact decide_eq_false hm
            rw [if_neg (fun h => hm h.1)] at hrow
            simp -dsimp only [h5, h7, h8, e1, e3, List.map_cons, List.map_nil, List.length_cons, List.length_nil, gate, show (false == false) = true from rfl, ↓preB, postB, genB, ↓reduceIte, Nat.reduceEqDiff, Int.reduceToNat, Int.reduceLE, Int.reduceLT, Nat.reduceAdd, Nat.reduceLeDiff, intBin, strBin, unD, extractD, lit1, lit2, lit3, keptD, boxR, D.one, D.pub1, D.cells, splice, cutOwn]
            intros
            exact ⟨⟨by decide, by decide⟩, bad _ _ _ hA.le (err hrow)⟩
        · have e1 : (((cutL 32 line).length : Int) != 3) = true := by
            simp only [bne_iff_ne, ne_eq]; omega
          simp -dsimp only [h5, h7, h8, e1, List.length_map, gate, show (true == false) = false from rfl, ↓preB, postB, genB, ↓reduceIte, Nat.reduceEqDiff, Int.reduceToNat, Int.reduceLE, Int.reduceLT, Nat.reduceAdd, Nat.reduceLeDiff, intBin, strBin, unD, extractD, lit1, lit2, lit3, keptD, boxR, D.one, D.pub1, D.cells, splice, cutOwn]
          intros
          exact bad _ _ _ hA.le (err (rowL_no h3))
      · have hn : ¬ (i : Int) < L.length := by omega
        rw [List.drop_of_length_le hge, goR] at hI
        cases large
        case true =>
          simp -dsimp only [h5, h7, h8, hn, ↓preB, postB, genB, ↓reduceIte, Nat.reduceEqDiff, Int.reduceToNat, Int.reduceLE, Int.reduceLT, Nat.reduceAdd, Nat.reduceLeDiff, intBin, strBin, unD, extractD, lit1, lit2, lit3, keptD, boxR, D.one, D.pub1, D.cells, splice, cutOwn]
          intros
          exact bad 0 3 _ hA.le (by rw [hgo, ← hI])
        simp -dsimp only [h5, h7, h8, hn, ↓preB, postB, genB, ↓reduceIte, Nat.reduceEqDiff, Int.reduceToNat, Int.reduceLE, Int.reduceLT, Nat.reduceAdd, Nat.reduceLeDiff, intBin, strBin, unD, extractD, lit1, lit2, lit3, keptD, boxR, D.one, D.pub1, D.cells, splice, cutOwn]
        intros
        rw [← hI] at hgo
        simp only at hgo
        refine Fn.useP (sorted_c done (by omega)) (by simp [hA.pub1, encT]) ?_
        simp -dsimp only [h5, h7, h8, ↓preB, postB, genB, ↓reduceIte, Nat.reduceEqDiff, Int.reduceToNat, Int.reduceLE, Int.reduceLT, Nat.reduceAdd, Nat.reduceLeDiff, intBin, strBin, unD, extractD, lit1, lit2, lit3, keptD, boxR, D.one, D.pub1, D.cells, splice, cutOwn]
        refine Fn.use (refValidate_c (srtT done)) ?_
        cases co : (badT (srtT done) != 0)
        case true =>
          have c' : badT (srtT done) ≠ 0 := by simpa using co
          simp -dsimp only [h5, h7, h8, co, ↓preB, postB, genB, ↓reduceIte, Nat.reduceEqDiff, Int.reduceToNat, Int.reduceLE, Int.reduceLT, Nat.reduceAdd, Nat.reduceLeDiff, intBin, strBin, unD, extractD, lit1, lit2, lit3, keptD, boxR, D.one, D.pub1, D.cells, splice, cutOwn]
          exact bad 0 _ _ hA.le (by rw [hgo, if_neg c'])
        have ho : badT (srtT done) = 0 := by simpa using co
        simp -dsimp only [h5, h7, h8, co, ↓preB, postB, genB, ↓reduceIte, Nat.reduceEqDiff, Int.reduceToNat, Int.reduceLE, Int.reduceLT, Nat.reduceAdd, Nat.reduceLeDiff, intBin, strBin, unD, extractD, lit1, lit2, lit3, keptD, boxR, D.one, D.pub1, D.cells, splice, cutOwn]
        rw [hgo, if_pos ho]
        exact Ret.less hA.le hcl (.tup3 (.refl _) (.refl _) (.refl _)) (.tup3 (belT _ _) (.int _ _) (.int _ _))
end Go.Proofs.YtldlcejlfaogbaaDoor.Vs
