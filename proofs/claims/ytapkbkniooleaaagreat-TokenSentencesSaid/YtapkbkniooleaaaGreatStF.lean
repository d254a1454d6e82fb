/- numbers of YtapkbkniooleaaaGreat -/
import Derived.Test.YtapkbkniooleaaaGreatStE
namespace Go.Proofs.YtapkbkniooleaaaGreat.Vs
set_option linter.unusedVariables false
set_option linter.unusedSimpArgs false
set_option maxRecDepth 100000
theorem capitals_c (s : ByteArray) : Fn Zs 23 [.str s] (.int .i64 (capsN s : Nat)) := by
  refine fn_of (Z := Zs) ok23 fun σ hcl hbl => ?_
  simp -dsimp only [L23, ↓preB, postB, genB, ↓reduceIte, Nat.reduceEqDiff, Int.reduceToNat, Int.reduceLE, Int.reduceLT, Nat.reduceAdd, Nat.reduceLeDiff, intBin, strBin, unD, extractD, lit1, lit2, lit3, keptD, boxR, D.one, D.pub1, D.cells, splice, cutOwn]
  have hlen : s.data.toList.length = s.size := rfl
  refine pwp_loopG (fun k env τ => k ≤ s.size ∧ τ = σ ∧ env 4 = .int .i64 (k:Nat) ∧ env 3 = .int .i64 (((s.data.toList.take k).filter bigU).length : Nat) ∧ env 0 = .str s) (fun k => s.size - k) 0 ?_ ?_
  · simp only [upd_apply, envOf_apply, Nat.reduceEqDiff, if_true, if_false]
    exact ⟨Nat.zero_le _, (by first | trivial | rfl | omega), (by first | trivial | rfl | omega), rfl, (by first | trivial | rfl | omega)⟩
  · rintro k env τ ⟨hk, rfl, h4, h3, h0⟩
    rcases Nat.lt_or_ge k s.size with hlt | hge
    · have hn : (k : Int) < s.size := by omega
      have hkl : k < s.data.toList.length := hlt
      have hb : byteAt s k = ((s.data.toList[k]).toNat : Int) := by
        unfold byteAt
        rw [List.getD_eq_getElem?_getD, List.getElem?_eq_getElem hkl]; rfl
      have hst : ((s.data.toList.take (k + 1)).filter bigU).length = ((s.data.toList.take k).filter bigU).length + if bigU s.data.toList[k] = true then 1 else 0 := by
        rw [List.take_succ_eq_append_getElem hkl, List.filter_append, List.length_append]
        congr 1
        generalize s.data.toList[k] = b
        cases hq : bigU b <;> simp [hq]
      have hle : ((s.data.toList.take k).filter bigU).length ≤ k := by
        have h1 := List.length_filter_le bigU (s.data.toList.take k)
        rw [List.length_take] at h1
        omega
      generalize ((s.data.toList.take k).filter bigU).length = n at *
      generalize s.data.toList[k] = b at hb hst
      simp -dsimp only [h4, h3, h0, hn, hlt, hb, ↓preB, postB, genB, ↓reduceIte, Nat.reduceEqDiff, Int.reduceToNat, Int.reduceLE, Int.reduceLT, Nat.reduceAdd, Nat.reduceLeDiff, intBin, strBin, unD, extractD, lit1, lit2, lit3, keptD, boxR, D.one, D.pub1, D.cells, splice, cutOwn]
      intro hbig
      have wn : IntKind.i64.wrap ((n : Int) + 1) = ((n + 1 : Nat) : Int) := wrap64_succ (by omega)
      have wk : IntKind.i64.wrap ((k : Int) + 1) = ((k + 1 : Nat) : Int) := wrap64_succ (by omega)
      refine Fn.use (isCapR_c _) ?_
      cases q : bigU b
      · rw [q, if_neg (by decide), Nat.add_zero] at hst
        have q' : isBigI (b.toNat : Int) = false := q
        simp -dsimp only [h4, h3, h0, q', gate, decide_true, decide_false, Bool.not_true, Bool.not_false, bTT, bTF, bFT, bFF, ↓preB, postB, genB, ↓reduceIte, Nat.reduceEqDiff, Int.reduceToNat, Int.reduceLE, Int.reduceLT, Nat.reduceAdd, Nat.reduceLeDiff, intBin, strBin, unD, extractD, lit1, lit2, lit3, keptD, boxR, D.one, D.pub1, D.cells, splice, cutOwn]
        exact ⟨k + 1, ⟨by omega, wk, by rw [hst]; rfl⟩, by omega⟩
      · rw [q, if_pos rfl] at hst
        have q' : isBigI (b.toNat : Int) = true := q
        simp -dsimp only [h4, h3, h0, q', wn, gate, decide_true, decide_false, Bool.not_true, Bool.not_false, bTT, bTF, bFT, bFF, ↓preB, postB, genB, ↓reduceIte, Nat.reduceEqDiff, Int.reduceToNat, Int.reduceLE, Int.reduceLT, Nat.reduceAdd, Nat.reduceLeDiff, intBin, strBin, unD, extractD, lit1, lit2, lit3, keptD, boxR, D.one, D.pub1, D.cells, splice, cutOwn]
        exact ⟨k + 1, ⟨by omega, wk, by rw [hst]⟩, by omega⟩
    · have hn : ¬ (k : Int) < s.size := by omega
      have : s.data.toList.take k = s.data.toList := List.take_of_length_le hge
      rw [this] at h3
      simp -dsimp only [h4, h3, h0, hn, ↓preB, postB, genB, ↓reduceIte, Nat.reduceEqDiff, Int.reduceToNat, Int.reduceLE, Int.reduceLT, Nat.reduceAdd, Nat.reduceLeDiff, intBin, strBin, unD, extractD, lit1, lit2, lit3, keptD, boxR, D.one, D.pub1, D.cells, splice, cutOwn]
      exact fun _ => Ret.is rfl
theorem NormalR_c (c : Cut) (s : ByteArray) : Fn Zs 11 [encC c, .str s] (encNo (noW c s)) := by
  refine fn_of (Z := Zs) ok11 fun σ hcl hbl => ?_
  simp -dsimp only [L11, encC, ↓preB, postB, genB, ↓reduceIte, Nat.reduceEqDiff, Int.reduceToNat, Int.reduceLE, Int.reduceLT, Nat.reduceAdd, Nat.reduceLeDiff, intBin, strBin, unD, extractD, lit1, lit2, lit3, keptD, boxR, D.one, D.pub1, D.cells, splice, cutOwn]
  obtain ⟨H, hH⟩ : ∃ H, H = σ.new (.cells 24 (cellsC c)) := ⟨_, rfl⟩
  have hcl1 : Closed H := by rw [hH]; exact hcl.new (bel_C c)
  have hle1 : HLe σ H := by rw [hH]; exact HLe.self_new _ hcl
  have hg1 : H.get σ.next = some (.cells 24 (cellsC c)) := by rw [hH]; exact Heap.new_same _ _
  rw [← hH]
  clear hH
  have hlen : (cellsC c).length = 4 := rfl
  have htk : (cellsC c).take 4 = cellsC c := rfl
  have hT := TokensR_c c s
  obtain ⟨w1, w2⟩ := tokW_wf c s
  have ho := tokW_ord c s
  have hv : noW c s = (normW (tokW c s).1, (tokW c s).2) := by
    unfold noW
    by_cases h0 : (tokW c s).2 = 0
    · rw [if_neg (by simpa using h0), h0]
    · rw [if_pos h0, tokW_nil c s h0]; rfl
  rw [hv]
  have hSt : ∀ i, i < (tokW c s).1.length → Fn Zs 16 [.sl .no (tokW c s).1.length (encTks (tokW c s).1), .int .i64 i] (.bool (startB (tokW c s).1 i)) := fun i h => startsR_c _ i h (by omega) w2 ho
  clear hv ho
  unfold encC encTok at hT
  simp -dsimp only [hg1, hlen, htk, List.drop_zero, ↓preB, postB, genB, ↓reduceIte, Nat.reduceEqDiff, Int.reduceToNat, Int.reduceLE, Int.reduceLT, Nat.reduceAdd, Nat.reduceLeDiff, intBin, strBin, unD, extractD, lit1, lit2, lit3, keptD, boxR, D.one, D.pub1, D.cells, splice, cutOwn]
  refine Fn.use hT ?_
  generalize (tokW c s).1 = l at *
  generalize (tokW c s).2 = e at *
  simp -dsimp only [List.getElem?_cons_zero, List.getElem?_cons_succ, ↓preB, postB, genB, ↓reduceIte, Nat.reduceEqDiff, Int.reduceToNat, Int.reduceLE, Int.reduceLT, Nat.reduceAdd, Nat.reduceLeDiff, intBin, strBin, unD, extractD, lit1, lit2, lit3, keptD, boxR, D.one, D.pub1, D.cells, splice, cutOwn]
  have hNa : ∀ i, (hi : i < l.length) → ((List.range (i + 1)).map fun i => D.str (if startB l i = true then headW (l.getD i tk0) else (l.getD i tk0).text)) = ((List.range i).map fun i => D.str (if startB l i = true then headW (l.getD i tk0) else (l.getD i tk0).text)) ++ [D.str (if startB l i = true then headW l[i] else l[i].text)] := fun i hi => by
    rw [List.range_succ, List.map_append, List.map_singleton, getD_at hi]
  refine pwp_loopJ 0 (fun e' τ => Acc 9 1 H (normW l).length ((normW l).map .str) (e' 8) τ ∧ e' 7 = .int .i64 e) (fun i env τ => i ≤ l.length ∧ Acc 9 1 H i ((List.range i).map fun i => D.str (if startB l i = true then headW (l.getD i tk0) else (l.getD i tk0).text)) (env 8) τ ∧ env 9 = .int .i64 (i:Nat) ∧ env 7 = .int .i64 e ∧ env 6 = .sl .no l.length (encTks l)) (fun i => l.length - i) 0 ?_ ?_ ?_
  · simp only [upd_apply, envOf_apply, Nat.reduceEqDiff, if_true, if_false]
    exact ⟨Nat.zero_le _, .nil (HLe.refl _), (by first | trivial | rfl | omega), (by first | trivial | rfl | omega), (by first | trivial | rfl | omega)⟩
  · rintro i env τ ⟨hi, hA, h9, h7, h6⟩
    rcases Nat.lt_or_ge i l.length with hlt | hge
    · have hn : (i : Int) < l.length := by omega
      have hl0 : 0 < (encTks l).length := by rw [encTks_len]; omega
      have hat := encTks_at hlt []
      rw [List.append_nil] at hat
      have hi4 : 4 ≤ (encTks l).length - i * 4 := by rw [encTks_len]; omega
      have e3i := encTks_3 hlt
      have hS := hSt i hlt
      have hX := isWordR_c l[i]
      have hmk := hNa i hlt
      have htx := (w2 _ (List.getElem_mem hlt)).1
      have tx1 : (0 : Int) < l[i].text.size := by omega
      have tx2 : 0 < l[i].text.size := by omega
      have hL := LowerR_c l[i].text
      have hC := capitals_c l[i].text
      have wi := wrap64_succ (k := i) (by simp only [big]; omega)
      have fin : ∀ (env' : Env) (d6 : D) (τ6 : Heap) (x : ByteArray), x = (if startB l i = true then headW l[i] else l[i].text) → Acc 9 1 H (i + 1) (((List.range i).map fun i => D.str (if startB l i = true then headW (l.getD i tk0) else (l.getD i tk0).text)) ++ [.str x]) d6 τ6 → Acc 9 1 H (i + 1) ((List.range (i + 1)).map fun i => D.str (if startB l i = true then headW (l.getD i tk0) else (l.getD i tk0).text)) d6 τ6 := fun _ d6 τ6 x hx h => by rw [hmk, ← hx]; exact h
      have hcl0 : ((List.range i).map fun i => D.str (if startB l i = true then headW (l.getD i tk0) else (l.getD i tk0).text)).length = i := by simp
      simp only [encTk] at hat hX
      have hh : headW l[i] = if (textB l[i] && isBigI (byteAt l[i].text 0) && decide (capsN l[i].text = 1)) = true then lowB l[i].text else l[i].text := rfl
      generalize ((List.range i).map fun i => D.str (if startB l i = true then headW (l.getD i tk0) else (l.getD i tk0).text)) = cs at *
      simp -dsimp only [h9, h7, h6, hn, hl0, hat, hi4, e3i, hlt, tx1, tx2, exitR_exit, ↓preB, postB, genB, ↓reduceIte, Nat.reduceEqDiff, Int.reduceToNat, Int.reduceLE, Int.reduceLT, Nat.reduceAdd, Nat.reduceLeDiff, intBin, strBin, unD, extractD, lit1, lit2, lit3, keptD, boxR, D.one, D.pub1, D.cells, splice, cutOwn]
      intro _
      refine Fn.use hS ?_
      cases q1 : startB l i
      · rw [q1, if_neg (by decide)] at fin
        simp -dsimp only [h9, h7, h6, hn, hl0, hat, hi4, e3i, hlt, tx1, tx2, q1, bs22, exitR_exit, gate, decide_true, decide_false, Bool.not_true, Bool.not_false, bTT, bTF, bFT, bFF, ↓preB, postB, genB, ↓reduceIte, Nat.reduceEqDiff, Int.reduceToNat, Int.reduceLE, Int.reduceLT, Nat.reduceAdd, Nat.reduceLeDiff, intBin, strBin, unD, extractD, lit1, lit2, lit3, keptD, boxR, D.one, D.pub1, D.cells, splice, cutOwn]
        refine hA.append hcl1 tz22 rfl tz9 rfl rfl rfl (by decide) (by rw [hcl0]; simp) (fedBy_sl (m := 1) tz22 rfl rfl) (by simp only []; omega) (by simp only [big]; omega) fun d6 τ6 hA6 => ?_
        simp -dsimp only [h9, h7, h6, hn, hl0, hat, hi4, e3i, hlt, tx1, tx2, exitR_exit, gate, decide_true, decide_false, Bool.not_true, Bool.not_false, bTT, bTF, bFT, bFF, ↓preB, postB, genB, ↓reduceIte, Nat.reduceEqDiff, Int.reduceToNat, Int.reduceLE, Int.reduceLT, Nat.reduceAdd, Nat.reduceLeDiff, intBin, strBin, unD, extractD, lit1, lit2, lit3, keptD, boxR, D.one, D.pub1, D.cells, splice, cutOwn]
        exact ⟨i + 1, ⟨by omega, fin env _ _ _ rfl hA6, wi⟩, by omega⟩
      rw [q1, if_pos rfl] at fin
      simp -dsimp only [h9, h7, h6, hn, hl0, hat, hi4, e3i, hlt, tx1, tx2, q1, exitR_exit, gate, decide_true, decide_false, Bool.not_true, Bool.not_false, bTT, bTF, bFT, bFF, ↓preB, postB, genB, ↓reduceIte, Nat.reduceEqDiff, Int.reduceToNat, Int.reduceLE, Int.reduceLT, Nat.reduceAdd, Nat.reduceLeDiff, intBin, strBin, unD, extractD, lit1, lit2, lit3, keptD, boxR, D.one, D.pub1, D.cells, splice, cutOwn]
      refine Fn.use hX ?_
      cases q2 : textB l[i]
      · simp -dsimp only [h9, h7, h6, hn, hl0, hat, hi4, e3i, hlt, tx1, tx2, q1, q2, bs22, exitR_exit, gate, decide_true, decide_false, Bool.not_true, Bool.not_false, bTT, bTF, bFT, bFF, ↓preB, postB, genB, ↓reduceIte, Nat.reduceEqDiff, Int.reduceToNat, Int.reduceLE, Int.reduceLT, Nat.reduceAdd, Nat.reduceLeDiff, intBin, strBin, unD, extractD, lit1, lit2, lit3, keptD, boxR, D.one, D.pub1, D.cells, splice, cutOwn]
        refine hA.append hcl1 tz22 rfl tz9 rfl rfl rfl (by decide) (by rw [hcl0]; simp) (fedBy_sl (m := 1) tz22 rfl rfl) (by simp only []; omega) (by simp only [big]; omega) fun d6 τ6 hA6 => ?_
        simp -dsimp only [h9, h7, h6, hn, hl0, hat, hi4, e3i, hlt, tx1, tx2, exitR_exit, gate, decide_true, decide_false, Bool.not_true, Bool.not_false, bTT, bTF, bFT, bFF, ↓preB, postB, genB, ↓reduceIte, Nat.reduceEqDiff, Int.reduceToNat, Int.reduceLE, Int.reduceLT, Nat.reduceAdd, Nat.reduceLeDiff, intBin, strBin, unD, extractD, lit1, lit2, lit3, keptD, boxR, D.one, D.pub1, D.cells, splice, cutOwn]
        exact ⟨i + 1, ⟨by omega, fin env _ _ _ (by rw [hh, q2]; rfl) hA6, wi⟩, by omega⟩
      simp -dsimp only [h9, h7, h6, hn, hl0, hat, hi4, e3i, hlt, tx1, tx2, q1, q2, exitR_exit, gate, decide_true, decide_false, Bool.not_true, Bool.not_false, bTT, bTF, bFT, bFF, ↓preB, postB, genB, ↓reduceIte, Nat.reduceEqDiff, Int.reduceToNat, Int.reduceLE, Int.reduceLT, Nat.reduceAdd, Nat.reduceLeDiff, intBin, strBin, unD, extractD, lit1, lit2, lit3, keptD, boxR, D.one, D.pub1, D.cells, splice, cutOwn]
      refine Fn.use (isCapR_c _) ?_
      cases q3 : isBigI (byteAt l[i].text 0)
      · simp -dsimp only [h9, h7, h6, hn, hl0, hat, hi4, e3i, hlt, tx1, tx2, q1, q2, q3, bs22, exitR_exit, gate, decide_true, decide_false, Bool.not_true, Bool.not_false, bTT, bTF, bFT, bFF, ↓preB, postB, genB, ↓reduceIte, Nat.reduceEqDiff, Int.reduceToNat, Int.reduceLE, Int.reduceLT, Nat.reduceAdd, Nat.reduceLeDiff, intBin, strBin, unD, extractD, lit1, lit2, lit3, keptD, boxR, D.one, D.pub1, D.cells, splice, cutOwn]
        refine hA.append hcl1 tz22 rfl tz9 rfl rfl rfl (by decide) (by rw [hcl0]; simp) (fedBy_sl (m := 1) tz22 rfl rfl) (by simp only []; omega) (by simp only [big]; omega) fun d6 τ6 hA6 => ?_
        simp -dsimp only [h9, h7, h6, hn, hl0, hat, hi4, e3i, hlt, tx1, tx2, exitR_exit, gate, decide_true, decide_false, Bool.not_true, Bool.not_false, bTT, bTF, bFT, bFF, ↓preB, postB, genB, ↓reduceIte, Nat.reduceEqDiff, Int.reduceToNat, Int.reduceLE, Int.reduceLT, Nat.reduceAdd, Nat.reduceLeDiff, intBin, strBin, unD, extractD, lit1, lit2, lit3, keptD, boxR, D.one, D.pub1, D.cells, splice, cutOwn]
        exact ⟨i + 1, ⟨by omega, fin env _ _ _ (by rw [hh, q2, q3]; rfl) hA6, wi⟩, by omega⟩
      simp -dsimp only [h9, h7, h6, hn, hl0, hat, hi4, e3i, hlt, tx1, tx2, q1, q2, q3, exitR_exit, gate, decide_true, decide_false, Bool.not_true, Bool.not_false, bTT, bTF, bFT, bFF, ↓preB, postB, genB, ↓reduceIte, Nat.reduceEqDiff, Int.reduceToNat, Int.reduceLE, Int.reduceLT, Nat.reduceAdd, Nat.reduceLeDiff, intBin, strBin, unD, extractD, lit1, lit2, lit3, keptD, boxR, D.one, D.pub1, D.cells, splice, cutOwn]
      refine Fn.use hC ?_
      by_cases q4 : capsN l[i].text = 1
      · have c4 : ((capsN l[i].text : Int) == 1) = true := by rw [q4]; rfl
        simp -dsimp only [h9, h7, h6, hn, hl0, hat, hi4, e3i, hlt, tx1, tx2, q1, q2, q3, c4, exitR_exit, gate, decide_true, decide_false, Bool.not_true, Bool.not_false, bTT, bTF, bFT, bFF, ↓preB, postB, genB, ↓reduceIte, Nat.reduceEqDiff, Int.reduceToNat, Int.reduceLE, Int.reduceLT, Nat.reduceAdd, Nat.reduceLeDiff, intBin, strBin, unD, extractD, lit1, lit2, lit3, keptD, boxR, D.one, D.pub1, D.cells, splice, cutOwn]
        refine Fn.use hL ?_
        simp -dsimp only [h9, h7, h6, hn, hl0, hat, hi4, e3i, hlt, tx1, tx2, q1, q2, q3, c4, bs22, exitR_exit, gate, decide_true, decide_false, Bool.not_true, Bool.not_false, bTT, bTF, bFT, bFF, ↓preB, postB, genB, ↓reduceIte, Nat.reduceEqDiff, Int.reduceToNat, Int.reduceLE, Int.reduceLT, Nat.reduceAdd, Nat.reduceLeDiff, intBin, strBin, unD, extractD, lit1, lit2, lit3, keptD, boxR, D.one, D.pub1, D.cells, splice, cutOwn]
        refine hA.append hcl1 tz22 rfl tz9 rfl rfl rfl (by decide) (by rw [hcl0]; simp) (fedBy_sl (m := 1) tz22 rfl rfl) (by simp only []; omega) (by simp only [big]; omega) fun d6 τ6 hA6 => ?_
        simp -dsimp only [h9, h7, h6, hn, hl0, hat, hi4, e3i, hlt, tx1, tx2, exitR_exit, gate, decide_true, decide_false, Bool.not_true, Bool.not_false, bTT, bTF, bFT, bFF, ↓preB, postB, genB, ↓reduceIte, Nat.reduceEqDiff, Int.reduceToNat, Int.reduceLE, Int.reduceLT, Nat.reduceAdd, Nat.reduceLeDiff, intBin, strBin, unD, extractD, lit1, lit2, lit3, keptD, boxR, D.one, D.pub1, D.cells, splice, cutOwn]
        exact ⟨i + 1, ⟨by omega, fin env _ _ _ (by rw [hh, q2, q3, decide_eq_true q4]; rfl) hA6, wi⟩, by omega⟩
      · have c4 : ((capsN l[i].text : Int) == 1) = false := by simp only [beq_eq_false_iff_ne, ne_eq]; omega
        simp -dsimp only [h9, h7, h6, hn, hl0, hat, hi4, e3i, hlt, tx1, tx2, q1, q2, q3, c4, bs22, exitR_exit, gate, decide_true, decide_false, Bool.not_true, Bool.not_false, bTT, bTF, bFT, bFF, ↓preB, postB, genB, ↓reduceIte, Nat.reduceEqDiff, Int.reduceToNat, Int.reduceLE, Int.reduceLT, Nat.reduceAdd, Nat.reduceLeDiff, intBin, strBin, unD, extractD, lit1, lit2, lit3, keptD, boxR, D.one, D.pub1, D.cells, splice, cutOwn]
        refine hA.append hcl1 tz22 rfl tz9 rfl rfl rfl (by decide) (by rw [hcl0]; simp) (fedBy_sl (m := 1) tz22 rfl rfl) (by simp only []; omega) (by simp only [big]; omega) fun d6 τ6 hA6 => ?_
        simp -dsimp only [h9, h7, h6, hn, hl0, hat, hi4, e3i, hlt, tx1, tx2, exitR_exit, gate, decide_true, decide_false, Bool.not_true, Bool.not_false, bTT, bTF, bFT, bFF, ↓preB, postB, genB, ↓reduceIte, Nat.reduceEqDiff, Int.reduceToNat, Int.reduceLE, Int.reduceLT, Nat.reduceAdd, Nat.reduceLeDiff, intBin, strBin, unD, extractD, lit1, lit2, lit3, keptD, boxR, D.one, D.pub1, D.cells, splice, cutOwn]
        exact ⟨i + 1, ⟨by omega, fin env _ _ _ (by rw [hh, q2, q3, decide_eq_false q4]; rfl) hA6, wi⟩, by omega⟩
    · have hn : ¬ (i : Int) < l.length := by omega
      have : i = l.length := by omega
      subst this
      simp -dsimp only [h9, h7, h6, hn, exitR_exit, ↓preB, postB, genB, ↓reduceIte, Nat.reduceEqDiff, Int.reduceToNat, Int.reduceLE, Int.reduceLT, Nat.reduceAdd, Nat.reduceLeDiff, intBin, strBin, unD, extractD, lit1, lit2, lit3, keptD, boxR, D.one, D.pub1, D.cells, splice, cutOwn]
      intro _
      have e1 : (normW l).length = l.length := by simp [normW]
      have e2 : (normW l).map D.str = (List.range l.length).map fun i => D.str (if startB l i = true then headW (l.getD i tk0) else (l.getD i tk0).text) := by unfold normW; rw [List.map_map]; rfl
      rw [e1, e2]
      exact hA
  · rintro env τ ⟨hA, h7⟩
    simp -dsimp only [h7, ↓preB, postB, genB, ↓reduceIte, Nat.reduceEqDiff, Int.reduceToNat, Int.reduceLE, Int.reduceLT, Nat.reduceAdd, Nat.reduceLeDiff, intBin, strBin, unD, extractD, lit1, lit2, lit3, keptD, boxR, D.one, D.pub1, D.cells, splice, cutOwn]
    exact Ret.less (hle1.trans hA.le) hcl (told2 (N := 0) hA.told) (bel2 (.no (bel_strs _)))
theorem strLt_irr (a : ByteArray) : strLt a a = false := by
  unfold strLt
  have key : ∀ l : List UInt8, Op.bytesLess l l = false := by
    intro l
    induction l with
    | nil => rfl
    | cons x l ih => simp [Op.bytesLess, ih]
  exact key _
theorem orderSame_c (w : Wd) : Fn Zs 25 [encSS w, encSS w] (.int .i64 0) := by
  refine fn_of (Z := Zs) ok25 fun σ hcl hbl => ?_
  simp -dsimp only [L25, encSS, ↓preB, postB, genB, ↓reduceIte, Nat.reduceEqDiff, Int.reduceToNat, Int.reduceLE, Int.reduceLT, Nat.reduceAdd, Nat.reduceLeDiff, intBin, strBin, unD, extractD, lit1, lit2, lit3, keptD, boxR, D.one, D.pub1, D.cells, splice, cutOwn]
  refine pwp_loopJ 0 (fun e τ => τ = σ ∧ e 0 = encSS w ∧ e 1 = encSS w) (fun k env τ => k ≤ w.length ∧ τ = σ ∧ env 5 = .int .i64 (k:Nat) ∧ env 0 = encSS w ∧ env 1 = encSS w) (fun k => w.length - k) 0 ?_ ?_ ?_
  · simp only [upd_apply, envOf_apply, Nat.reduceEqDiff, if_true, if_false, encSS]
    exact ⟨Nat.zero_le _, (by first | trivial | rfl | omega), (by first | trivial | rfl | omega), (by first | trivial | rfl | omega), (by first | trivial | rfl | omega)⟩
  · rintro k env τ ⟨hk, rfl, h5, h0, h1⟩
    rcases Nat.lt_or_ge k w.length with hlt | hge
    · have hn : (k : Int) < w.length := by omega
      have hx : w[k]? = some w[k] := List.getElem?_eq_getElem hlt
      have hp : 0 < w.length := by omega
      have e1 := strLt_irr w[k]
      have e2 : (w[k] == w[k]) = true := ba_refl _
      simp -dsimp only [h5, h0, h1, hn, hlt, hx, hp, encSS, exitR_exit, gate, decide_true, decide_false, Bool.not_true, Bool.not_false, bTT, bTF, bFT, bFF, ↓preB, postB, genB, ↓reduceIte, Nat.reduceEqDiff, Int.reduceToNat, Int.reduceLE, Int.reduceLT, Nat.reduceAdd, Nat.reduceLeDiff, intBin, strBin, unD, extractD, lit1, lit2, lit3, keptD, boxR, D.one, D.pub1, D.cells, splice, cutOwn]
      intro _ _
      refine draw_s ?_
      simp -dsimp only [h5, h0, h1, hn, hlt, hx, hp, e1, e2, encSS, exitR_exit, gate, decide_true, decide_false, Bool.not_true, Bool.not_false, bTT, bTF, bFT, bFF, ↓preB, postB, genB, ↓reduceIte, Nat.reduceEqDiff, Int.reduceToNat, Int.reduceLE, Int.reduceLT, Nat.reduceAdd, Nat.reduceLeDiff, intBin, strBin, unD, extractD, lit1, lit2, lit3, keptD, boxR, D.one, D.pub1, D.cells, splice, cutOwn]
      refine draw_s ?_
      simp -dsimp only [h5, h0, h1, hn, hlt, hx, hp, e1, e2, encSS, Bool.or_true, Bool.false_or, exitR_exit, gate, decide_true, decide_false, Bool.not_true, Bool.not_false, bTT, bTF, bFT, bFF, ↓preB, postB, genB, ↓reduceIte, Nat.reduceEqDiff, Int.reduceToNat, Int.reduceLE, Int.reduceLT, Nat.reduceAdd, Nat.reduceLeDiff, intBin, strBin, unD, extractD, lit1, lit2, lit3, keptD, boxR, D.one, D.pub1, D.cells, splice, cutOwn]
      exact ⟨k + 1, ⟨by omega, wrap64_succ (by omega)⟩, by omega⟩
    · have hn : ¬ (k : Int) < w.length := by omega
      simp -dsimp only [h5, h0, h1, hn, encSS, exitR_exit, gate, decide_true, decide_false, Bool.not_true, Bool.not_false, bTT, bTF, bFT, bFF, ↓preB, postB, genB, ↓reduceIte, Nat.reduceEqDiff, Int.reduceToNat, Int.reduceLE, Int.reduceLT, Nat.reduceAdd, Nat.reduceLeDiff, intBin, strBin, unD, extractD, lit1, lit2, lit3, keptD, boxR, D.one, D.pub1, D.cells, splice, cutOwn]
  · rintro env τ ⟨rfl, h0, h1⟩
    simp -dsimp only [h0, h1, encSS, show ¬ ((w.length : Int) < w.length) by omega, gate, decide_true, decide_false, Bool.not_true, Bool.not_false, bTT, bTF, bFT, bFF, ↓preB, postB, genB, ↓reduceIte, Nat.reduceEqDiff, Int.reduceToNat, Int.reduceLE, Int.reduceLT, Nat.reduceAdd, Nat.reduceLeDiff, intBin, strBin, unD, extractD, lit1, lit2, lit3, keptD, boxR, D.one, D.pub1, D.cells, splice, cutOwn]
    exact fun _ _ _ _ => Ret.is rfl
theorem sameSS_c (w : Wd) : Fn Zs 12 [encSS w, encSS w] (.bool true) := by
  refine fn_of (Z := Zs) ok12 fun σ hcl hbl => ?_
  simp -dsimp only [L12, ↓preB, postB, genB, ↓reduceIte, Nat.reduceEqDiff, Int.reduceToNat, Int.reduceLE, Int.reduceLT, Nat.reduceAdd, Nat.reduceLeDiff, intBin, strBin, unD, extractD, lit1, lit2, lit3, keptD, boxR, D.one, D.pub1, D.cells, splice, cutOwn]
  refine Fn.use (orderSame_c w) ?_
  simp -dsimp only [show ((0 : Int) == 0) = true from rfl, ↓preB, postB, genB, ↓reduceIte, Nat.reduceEqDiff, Int.reduceToNat, Int.reduceLE, Int.reduceLT, Nat.reduceAdd, Nat.reduceLeDiff, intBin, strBin, unD, extractD, lit1, lit2, lit3, keptD, boxR, D.one, D.pub1, D.cells, splice, cutOwn]
  exact Ret.is rfl
end Go.Proofs.YtapkbkniooleaaaGreat.Vs
