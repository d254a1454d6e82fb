/- numbers of YtldlcejlfaogbaaDoor -/
/- Two tables joined by the program. -/
import Derived.Test.YtldlcejlfaogbaaDoorJoF3
import Derived.Test.YtldlcejlfaogbaaDoorDmTwo
namespace Go.Proofs.YtldlcejlfaogbaaDoor.Vs
set_option linter.unusedVariables false
set_option linter.unusedSimpArgs false
set_option maxRecDepth 20000

theorem nilOf_no {n : Nat} (hn : 0 < n) : nilOf .no n = some false := by simp [nilOf, hn]
theorem bs29_0 {nx : Nat} : buildSliceR Zs 0 29 0 [] nx = some (.sl .full 0 [], .keep) := by rfl
theorem cloneW_c (w : Wd) (h0 : w ≠ []) (hb : w.length ≤ 100000) : Fn Zs 23 [encSS w] (encSS w) := by
  have hp : 0 < w.length := List.length_pos_iff.2 h0
  refine fn_of (Z := Zs) ok23 fun σ hcl hbl => ?_
  simp -dsimp only [L23, nilOf_no hp, bs29_0, encSS, ↓preB, postB, genB, ↓reduceIte, Nat.reduceEqDiff, Int.reduceToNat, Int.reduceLE, Int.reduceLT, Nat.reduceAdd, Nat.reduceLeDiff, intBin, strBin, unD, extractD, lit1, lit2, lit3, keptD, boxR, D.one, D.pub1, D.cells, splice, cutOwn]
  refine (Acc.full (e := 9) (z := 1) (n := 0) (cs := []) (HLe.refl σ)).append (m := w.length) (ys := w.map .str) hcl tz29 rfl tz9 rfl rfl rfl (by decide) (by simp) (fedBy_sl tz29 rfl (by simp)) (by simp only []; omega) (by simp only [big]; omega) fun d' s' hA => ?_
  simp -dsimp only [↓preB, postB, genB, ↓reduceIte, Nat.reduceEqDiff, Int.reduceToNat, Int.reduceLE, Int.reduceLT, Nat.reduceAdd, Nat.reduceLeDiff, intBin, strBin, unD, extractD, lit1, lit2, lit3, keptD, boxR, D.one, D.pub1, D.cells, splice, cutOwn]
  exact Ret.less hA.le hcl (by simpa [encSS] using hA.told) (.no (bel_strs _))

theorem rowsD_append : ∀ a b : List Sh, rowsD (a ++ b) = rowsD a ++ rowsD b
  | [], b => rfl
  | r :: a, b => by simp only [List.cons_append, rowsD, rowsD_append a b]
theorem joinT_take {a b : List Sh} {k : Nat} (h : k < a.length) : joinT (a.take (k + 1)) b = joinT (a.take k) b ++ [⟨a[k].From, (shiftW b a[k].To).1⟩] := by
  rw [List.take_succ_eq_append_getElem h]
  simp only [joinT, List.map_append, List.map_cons, List.map_nil]
theorem tos_take {a : List Sh} {k : Nat} (h : k < a.length) : (a.take (k + 1)).map (·.To) = (a.take k).map (·.To) ++ [a[k].To] := by
  rw [List.take_succ_eq_append_getElem h]
  simp only [List.map_append, List.map_cons, List.map_nil]
def encJ (v : List Sh × Bool × Int) : D := .tup [encT v.1, .bool v.2.1, .int .i64 v.2.2]
theorem bel_rowsD {N : Nat} : ∀ t : List Sh, ∀ d ∈ rowsD t, Bel N d
  | [], d, h => by cases h
  | r :: t, d, h => by
    simp only [rowsD, List.mem_cons] at h
    rcases h with rfl | rfl | h
    · exact .no (bel_strs _)
    · exact .no (bel_strs _)
    · exact bel_rowsD t d h
theorem bel_encJ {N : Nat} (v : List Sh × Bool × Int) : Bel N (encJ v) := .tup3 (.no (bel_rowsD _)) (.bool _) (.int _ _)
theorem told_nilT {σ τ : Heap} : Told σ τ (.sl .nil 0 []) (encT []) := .sl .nil .no 0 [] [] (.inl rfl) rfl (fun i h => by cases h)
theorem ab46 (o o2 : Own) (n n2 : Nat) (cs cs2 : List D) : aBuilt Zs 46 [(0, .sl o n cs), (1, .sl o2 n2 cs2)] = some [.sl o n cs, .sl o2 n2 cs2] := by rfl
theorem bs22 (o o2 : Own) (n n2 nx : Nat) (cs cs2 : List D) : buildSliceR Zs 0 22 1 [(0, .agg [.sl o n cs, .sl o2 n2 cs2])] nx = some (.sl .full 1 [.sl o n cs, .sl o2 n2 cs2], .keep) := by rfl
theorem Join_c (a b : List Sh) : Fn Zs 9 [encT a, encT b] (encJ (joinV a b)) := by
  refine fn_of (Z := Zs) ok9 fun σ hcl hbl => ?_
  simp -dsimp only [L9, encT, ↓preB, postB, genB, ↓reduceIte, Nat.reduceEqDiff, Int.reduceToNat, Int.reduceLE, Int.reduceLT, Nat.reduceAdd, Nat.reduceLeDiff, intBin, strBin, unD, extractD, lit1, lit2, lit3, keptD, boxR, D.one, D.pub1, D.cells, splice, cutOwn]
  intro _
  have jerr : joinE a b ≠ 0 → joinV a b = ([], false, joinE a b) := fun h => by rw [joinV, if_pos h]
  have err : ∀ (e : Int) (s : Heap), HLe σ s → e ≠ 0 → joinE a b = e → Ret σ (fun d τ => d = encJ (joinV a b) ∧ τ = σ) (.tup [.sl .nil 0 [], .bool false, .int .i64 e]) s := fun e s hle h0 he => by
    rw [jerr (he ▸ h0), he]
    exact Ret.less hle hcl (.tup3 told_nilT (.refl _) (.refl _)) (bel_encJ ([], false, e))
  refine pwp_loopG (fun k env s => k ≤ 2 ∧ (1 ≤ k → badT a = 0) ∧ (2 ≤ k → badT b = 0) ∧ s = σ ∧ env 21 = .int .i64 (k:Nat) ∧ env 20 = .int .i64 2 ∧ env 19 = .sl .full 2 [encT a, encT b] ∧ env 0 = encT a ∧ env 1 = encT b) (fun k => 2 - k) 0 ?_ ?_
  · simp [upd_apply, envOf_apply, encT]
  · rintro k env s ⟨hk, ha, hb, rfl, h21, h20, h19, h0, h1⟩
    by_cases k0 : k = 0
    · subst k0
      have hlt : ((0 : Nat) : Int) < 2 := by decide
      simp -dsimp only [h21, h20, h19, h0, h1, hlt, if_true, List.getElem?_cons_zero, ↓preB, postB, genB, ↓reduceIte, Nat.reduceEqDiff, Int.reduceToNat, Int.reduceLE, Int.reduceLT, Nat.reduceAdd, Nat.reduceLeDiff, intBin, strBin, unD, extractD, lit1, lit2, lit3, keptD, boxR, D.one, D.pub1, D.cells, splice, cutOwn]
      refine ⟨⟨by decide, by decide⟩, Fn.use (validate_c a) ?_⟩
      cases c : (badT a != 0)
      · simp -dsimp only [c, h21, h20, h19, h0, h1, ↓preB, postB, genB, ↓reduceIte, Nat.reduceEqDiff, Int.reduceToNat, Int.reduceLE, Int.reduceLT, Nat.reduceAdd, Nat.reduceLeDiff, intBin, strBin, unD, extractD, lit1, lit2, lit3, keptD, boxR, D.one, D.pub1, D.cells, splice, cutOwn]
        exact ⟨1, ⟨by omega, fun _ => by simpa using c, fun h => by omega, by decide⟩, by omega⟩
      · have c' : badT a ≠ 0 := by simpa using c
        simp -dsimp only [c, h21, h20, h19, h0, h1, ↓preB, postB, genB, ↓reduceIte, Nat.reduceEqDiff, Int.reduceToNat, Int.reduceLE, Int.reduceLT, Nat.reduceAdd, Nat.reduceLeDiff, intBin, strBin, unD, extractD, lit1, lit2, lit3, keptD, boxR, D.one, D.pub1, D.cells, splice, cutOwn]
        exact err _ _ (HLe.refl _) c' (by rw [joinE, if_pos c'])
    · have ha0 := ha (by omega)
      by_cases k1 : k = 1
      · subst k1
        have hlt : ((1 : Nat) : Int) < 2 := by decide
        simp -dsimp only [h21, h20, h19, h0, h1, hlt, if_true, List.getElem?_cons_zero, List.getElem?_cons_succ, ↓preB, postB, genB, ↓reduceIte, Nat.reduceEqDiff, Int.reduceToNat, Int.reduceLE, Int.reduceLT, Nat.reduceAdd, Nat.reduceLeDiff, intBin, strBin, unD, extractD, lit1, lit2, lit3, keptD, boxR, D.one, D.pub1, D.cells, splice, cutOwn]
        refine ⟨⟨by decide, by decide⟩, Fn.use (validate_c b) ?_⟩
        cases c : (badT b != 0)
        · simp -dsimp only [c, h21, h20, h19, h0, h1, ↓preB, postB, genB, ↓reduceIte, Nat.reduceEqDiff, Int.reduceToNat, Int.reduceLE, Int.reduceLT, Nat.reduceAdd, Nat.reduceLeDiff, intBin, strBin, unD, extractD, lit1, lit2, lit3, keptD, boxR, D.one, D.pub1, D.cells, splice, cutOwn]
          exact ⟨2, ⟨by omega, fun _ => ha0, fun _ => by simpa using c, by decide⟩, by omega⟩
        · have c' : badT b ≠ 0 := by simpa using c
          simp -dsimp only [c, h21, h20, h19, h0, h1, ↓preB, postB, genB, ↓reduceIte, Nat.reduceEqDiff, Int.reduceToNat, Int.reduceLE, Int.reduceLT, Nat.reduceAdd, Nat.reduceLeDiff, intBin, strBin, unD, extractD, lit1, lit2, lit3, keptD, boxR, D.one, D.pub1, D.cells, splice, cutOwn]
          exact err _ _ (HLe.refl _) c' (by rw [joinE, if_neg (by simpa using ha0), if_pos c'])
      · have hk2 : k = 2 := by omega
        subst hk2
        have hb0 := hb (by omega)
        have hnlt : ¬ (((2 : Nat) : Int) < 2) := by decide
        simp -dsimp only [h21, h20, h19, h0, h1, hnlt, if_false, ↓preB, postB, genB, ↓reduceIte, Nat.reduceEqDiff, Int.reduceToNat, Int.reduceLE, Int.reduceLT, Nat.reduceAdd, Nat.reduceLeDiff, intBin, strBin, unD, extractD, lit1, lit2, lit3, keptD, boxR, D.one, D.pub1, D.cells, splice, cutOwn]
        refine Fn.use (asked_c a) ?_
        cases c : (askE a != 0)
        · have c' : askE a = 0 := by simpa using c
          simp -dsimp only [c, h21, h20, h19, h0, h1, encT, ↓preB, postB, genB, ↓reduceIte, Nat.reduceEqDiff, Int.reduceToNat, Int.reduceLE, Int.reduceLT, Nat.reduceAdd, Nat.reduceLeDiff, intBin, strBin, unD, extractD, lit1, lit2, lit3, keptD, boxR, D.one, D.pub1, D.cells, splice, cutOwn]
          intro hbig
          obtain ⟨hb1, hb2⟩ := table_ok hb0
          obtain ⟨hb3, hb4, _⟩ := badT_zero hb0
          obtain ⟨ha1, ha2⟩ := table_ok ha0
          obtain ⟨ha3, ha4, _⟩ := badT_zero ha0
          have ha4' := firstE_zero ha4
          refine pwp_loopG (fun k env τ => k ≤ a.length ∧ Two s 46 2 k (rowsD (joinT (a.take k) b)) (env 11) 29 1 k (((a.take k).map (·.To)).map encSS) (env 12) τ ∧ (joinT (a.take k) b).any (fun r => decide (60 < r.To.length)) = false ∧ env 38 = .int .i64 (k:Nat) ∧ env 37 = .int .i64 a.length ∧ env 36 = encT a ∧ env 1 = encT b) (fun k => a.length - k) 0 ?_ ?_
          · simp only [upd_apply, h0, h1, encT, Nat.reduceEqDiff, if_true, if_false]
            refine ⟨Nat.zero_le _, Two.start hcl, rfl, ?_⟩
            simp
          · clear h21 h20 h19 h0 h1 hk ha hb hnlt
            rintro k env τ ⟨hk, hTw, hany, h38, h37, h36, h1⟩
            rcases Nat.lt_or_ge k a.length with hlt | hge
            · have hd := rowsD_at hlt
              have hpos : 0 < (rowsD a).length := by rw [rowsD_len]; omega
              simp -dsimp only [h38, h37, h36, h1, encT, hlt, hd, hpos, ↓preB, postB, genB, ↓reduceIte, Nat.reduceEqDiff, Int.reduceToNat, Int.reduceLE, Int.reduceLT, Nat.reduceAdd, Nat.reduceLeDiff, intBin, strBin, unD, extractD, lit1, lit2, lit3, keptD, boxR, D.one, D.pub1, D.cells, splice, cutOwn]
              have hak := List.getElem_mem hlt
              have hT2 := hTw.new hcl (.cells 46 [encSS a[k].From, encSS a[k].To])
              have hget : (τ.new (.cells 46 [encSS a[k].From, encSS a[k].To])).get τ.next = some (.cells 46 [encSS a[k].From, encSS a[k].To]) := Heap.new_same _ _
              have htl := ha2 _ hak
              have hfl : a[k].From.length ≤ 60 := badW_len (ha4' _ hak).1
              have hfn := ha1 _ hak
              have hjt := joinT_take (b := b) hlt
              have htt := tos_take (a := a) hlt
              generalize τ.new (.cells 46 [encSS a[k].From, encSS a[k].To]) = s1 at hT2 hget ⊢
              generalize a[k] = r at hd htl hfl hfn hjt htt hget hT2 hak ⊢
              have hsl := shiftW_le hb1 hb2 r.To
              refine Fn.use (shifted_c b r.To hb1 hb2 (by omega)) ?_
              by_cases h60 : 60 < (shiftW b r.To).1.length
              · have h60' : (60 : Int) < ((shiftW b r.To).1.length : Int) := by omega
                simp -dsimp only [h38, h37, h36, h1, encT, encSS, hlt, hd, hpos, h60, h60', if_true, ↓preB, postB, genB, ↓reduceIte, Nat.reduceEqDiff, Int.reduceToNat, Int.reduceLE, Int.reduceLT, Nat.reduceAdd, Nat.reduceLeDiff, intBin, strBin, unD, extractD, lit1, lit2, lit3, keptD, boxR, D.one, D.pub1, D.cells, splice, cutOwn]
                intro _
                have hex : (joinT a b).any (fun r => decide (60 < r.To.length)) = true := List.any_eq_true.2 ⟨⟨r.From, (shiftW b r.To).1⟩, List.mem_map.2 ⟨r, hak, rfl⟩, decide_eq_true h60⟩
                exact err 3 _ hT2.le (by decide) (by rw [joinE, if_neg (by simpa using ha0), if_neg (by simpa using hb0), if_neg (by simpa using c'), if_pos hex])
              · have h60' : ¬ (60 : Int) < ((shiftW b r.To).1.length : Int) := by omega
                simp -dsimp only [h38, h37, h36, h1, encT, encSS, hlt, hd, hpos, h60, h60', if_false, ↓preB, postB, genB, ↓reduceIte, Nat.reduceEqDiff, Int.reduceToNat, Int.reduceLE, Int.reduceLT, Nat.reduceAdd, Nat.reduceLeDiff, intBin, strBin, unD, extractD, lit1, lit2, lit3, keptD, boxR, D.one, D.pub1, D.cells, splice, cutOwn]
                intro _
                simp -dsimp only [hget, List.getElem?_cons_zero, List.getElem?_cons_succ, encSS, ↓preB, postB, genB, ↓reduceIte, Nat.reduceEqDiff, Int.reduceToNat, Int.reduceLE, Int.reduceLT, Nat.reduceAdd, Nat.reduceLeDiff, intBin, strBin, unD, extractD, lit1, lit2, lit3, keptD, boxR, D.one, D.pub1, D.cells, splice, cutOwn]
                refine Fn.use (cloneW_c r.From hfn (by omega)) ?_
                simp -dsimp only [h38, h37, h36, h1, encT, encSS, hlt, hd, hpos, ab46, bs22, ↓preB, postB, genB, ↓reduceIte, Nat.reduceEqDiff, Int.reduceToNat, Int.reduceLE, Int.reduceLT, Nat.reduceAdd, Nat.reduceLeDiff, intBin, strBin, unD, extractD, lit1, lit2, lit3, keptD, boxR, D.one, D.pub1, D.cells, splice, cutOwn]
                refine hT2.append hcl tz22 rfl tz46 rfl rfl rfl (by decide) (by rw [rowsD_len]; simp [joinT]; omega) (fedBy_sl (m := 1) tz22 rfl rfl) (by decide) (by simp only []; omega) (by simp only [big]; omega) fun d2 τ2 hT3 hk3 => ?_
                have hget3 := hk3 _ _ hget (by simp)
                simp -dsimp only [h38, h37, h36, h1, encT, encSS, hlt, hd, hpos, ↓preB, postB, genB, ↓reduceIte, Nat.reduceEqDiff, Int.reduceToNat, Int.reduceLE, Int.reduceLT, Nat.reduceAdd, Nat.reduceLeDiff, intBin, strBin, unD, extractD, lit1, lit2, lit3, keptD, boxR, D.one, D.pub1, D.cells, splice, cutOwn]
                simp -dsimp only [hget3, h38, h37, h36, h1, List.getElem?_cons_zero, List.getElem?_cons_succ, encT, encSS, hlt, hd, hpos, ↓preB, postB, genB, ↓reduceIte, Nat.reduceEqDiff, Int.reduceToNat, Int.reduceLE, Int.reduceLT, Nat.reduceAdd, Nat.reduceLeDiff, intBin, strBin, unD, extractD, lit1, lit2, lit3, keptD, boxR, D.one, D.pub1, D.cells, splice, cutOwn]
                refine hT3.swap.append hcl tz49 rfl tz29 rfl rfl rfl (by decide) (by simp; omega) (fedBy_sl (m := 1) tz49 rfl rfl) (by decide) (by simp only []; omega) (by simp only [big]; omega) fun d4 τ4 hT4 _ => ?_
                simp -dsimp only [h38, h37, h36, h1, encT, encSS, hlt, hd, hpos, ↓preB, postB, genB, ↓reduceIte, Nat.reduceEqDiff, Int.reduceToNat, Int.reduceLE, Int.reduceLT, Nat.reduceAdd, Nat.reduceLeDiff, intBin, strBin, unD, extractD, lit1, lit2, lit3, keptD, boxR, D.one, D.pub1, D.cells, splice, cutOwn]
                refine ⟨k + 1, ⟨by omega, ?_, ?_, wrap64_succ (by omega)⟩, by omega⟩
                · have := hT4.swap
                  rw [hjt, htt, rowsD_append, List.map_append]
                  exact this
                · rw [hjt, List.any_append, hany]
                  simp [h60]
            · have hkl : k = a.length := by omega
              subst hkl
              rw [List.take_length] at hTw hany
              simp -dsimp only [h38, h37, h36, h1, encT, Nat.lt_irrefl, ↓preB, postB, genB, ↓reduceIte, Nat.reduceEqDiff, Int.reduceToNat, Int.reduceLE, Int.reduceLT, Nat.reduceAdd, Nat.reduceLeDiff, intBin, strBin, unD, extractD, lit1, lit2, lit3, keptD, boxR, D.one, D.pub1, D.cells, splice, cutOwn]
              have hany' : ¬ ((joinT a b).any (fun r => decide (60 < r.To.length)) = true) := by rw [hany]; decide
              have hE : joinE a b = 0 := by rw [joinE, if_neg (by simpa using ha0), if_neg (by simpa using hb0), if_neg (by simpa using c'), if_neg hany']
              refine Fn.useP (joins_c (a.map (·.To)) b hb1 hb2 (fun r hr => badW_len (firstE_zero hb4 r hr).1) hb3 fun w hw => ?_) ?_ ?_
              · obtain ⟨r, hr, rfl⟩ := List.mem_map.1 hw
                exact badW_good (ha4' r hr).2
              · show [(env 12).pub1, _] = _
                rw [hTw.two.pub1]
                simp [encLL, encT, D.pub1]
              · cases hj : joinsW b (a.map (·.To)) with
                | false =>
                  have hv : joinV a b = ([], false, 0) := by rw [joinV, if_neg (by simpa using hE), if_neg (by rw [hj]; decide)]
                  simp -dsimp only [h38, h37, h36, h1, ↓preB, postB, genB, ↓reduceIte, Nat.reduceEqDiff, Int.reduceToNat, Int.reduceLE, Int.reduceLT, Nat.reduceAdd, Nat.reduceLeDiff, intBin, strBin, unD, extractD, lit1, lit2, lit3, keptD, boxR, D.one, D.pub1, D.cells, splice, cutOwn]
                  rw [hv]
                  exact Ret.less hTw.le hcl (.tup3 told_nilT (.refl _) (.refl _)) (bel_encJ ([], false, 0))
                | true =>
                  have hv : joinV a b = (joinT a b, true, 0) := by rw [joinV, if_neg (by simpa using hE), if_pos hj]
                  simp -dsimp only [h38, h37, h36, h1, ↓preB, postB, genB, ↓reduceIte, Nat.reduceEqDiff, Int.reduceToNat, Int.reduceLE, Int.reduceLT, Nat.reduceAdd, Nat.reduceLeDiff, intBin, strBin, unD, extractD, lit1, lit2, lit3, keptD, boxR, D.one, D.pub1, D.cells, splice, cutOwn]
                  rw [hv]
                  refine Ret.less hTw.le hcl (.tup3 ?_ (.refl _) (.refl _)) (bel_encJ (joinT a b, true, 0))
                  have := hTw.one.told (τ := τ) (τ' := s)
                  have hl : (joinT a b).length = a.length := by simp [joinT]
                  rw [encT, hl]
                  exact this
        · have c' : askE a ≠ 0 := by simpa using c
          simp -dsimp only [c, h21, h20, h19, h0, h1, ↓preB, postB, genB, ↓reduceIte, Nat.reduceEqDiff, Int.reduceToNat, Int.reduceLE, Int.reduceLT, Nat.reduceAdd, Nat.reduceLeDiff, intBin, strBin, unD, extractD, lit1, lit2, lit3, keptD, boxR, D.one, D.pub1, D.cells, splice, cutOwn]
          exact err _ _ (HLe.refl _) c' (by rw [joinE, if_neg (by simpa using ha0), if_neg (by simpa using hb0), if_pos c'])
end Go.Proofs.YtldlcejlfaogbaaDoor.Vs
