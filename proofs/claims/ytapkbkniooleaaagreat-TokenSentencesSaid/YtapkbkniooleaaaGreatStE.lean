/- numbers of YtapkbkniooleaaaGreat -/
import Derived.Test.YtapkbkniooleaaaGreatStD
namespace Go.Proofs.YtapkbkniooleaaaGreat.Vs
set_option linter.unusedVariables false
set_option linter.unusedSimpArgs false
set_option maxRecDepth 100000
theorem bs22 (a : ByteArray) (nx : Nat) : buildSliceR Zs 0 22 1 [(0, .str a)] nx = some (.sl .full 1 [.str a], .keep) := by rfl
theorem isBigU_c (x : UInt8) : Fn Zs 18 [.int .u8 x.toNat] (.bool (bigU x)) := isBig_c _
theorem Normal_c (c : Cut) (s : ByteArray) : Fn Zs 10 [encC c, .str s] (encNo (noW c s)) := by
  refine fn_of (Z := Zs) ok10 fun σ hcl hbl => ?_
  simp -dsimp only [L10, encC, ↓preB, postB, genB, ↓reduceIte, Nat.reduceEqDiff, Int.reduceToNat, Int.reduceLE, Int.reduceLT, Nat.reduceAdd, Nat.reduceLeDiff, intBin, strBin, unD, extractD, lit1, lit2, lit3, keptD, boxR, D.one, D.pub1, D.cells, splice, cutOwn]
  obtain ⟨H, hH⟩ : ∃ H, H = σ.new (.cells 24 (cellsC c)) := ⟨_, rfl⟩
  have hcl1 : Closed H := by rw [hH]; exact hcl.new (bel_C c)
  have hle1 : HLe σ H := by rw [hH]; exact HLe.self_new _ hcl
  have hg1 : H.get σ.next = some (.cells 24 (cellsC c)) := by rw [hH]; exact Heap.new_same _ _
  rw [← hH]
  clear hH
  have hlen : (cellsC c).length = 4 := rfl
  have htk : (cellsC c).take 4 = cellsC c := rfl
  have hT := Tokens_c c s
  obtain ⟨w1, w2⟩ := tokW_wf c s
  have hB := begins_c (tokW c s).1 (by omega) w2
  unfold noW
  unfold encC encTok at hT
  simp -dsimp only [hg1, hlen, htk, List.drop_zero, ↓preB, postB, genB, ↓reduceIte, Nat.reduceEqDiff, Int.reduceToNat, Int.reduceLE, Int.reduceLT, Nat.reduceAdd, Nat.reduceLeDiff, intBin, strBin, unD, extractD, lit1, lit2, lit3, keptD, boxR, D.one, D.pub1, D.cells, splice, cutOwn]
  refine Fn.use hT ?_
  generalize (tokW c s).1 = l at *
  generalize (tokW c s).2 = e at *
  by_cases e0 : e = 0
  · have c0 : (e != 0) = false := by rw [e0]; rfl
    rw [if_neg (by simpa using e0)]
    simp -dsimp only [c0, List.getElem?_cons_zero, List.getElem?_cons_succ, gate, decide_true, decide_false, Bool.not_true, Bool.not_false, bTT, bTF, bFT, bFF, ↓preB, postB, genB, ↓reduceIte, Nat.reduceEqDiff, Int.reduceToNat, Int.reduceLE, Int.reduceLT, Nat.reduceAdd, Nat.reduceLeDiff, intBin, strBin, unD, extractD, lit1, lit2, lit3, keptD, boxR, D.one, D.pub1, D.cells, splice, cutOwn]
    intro hlb
    refine pwp_loopJ 0 (fun e' τ => OneR 9 1 l.length H ((halfW l []).map .str) (e' 8) τ ∧ HLe H τ ∧ e' 6 = .sl .no l.length (encTks l)) (fun i env τ => i ≤ l.length ∧ RT H 9 1 i ((l.take i).map fun t => .str t.text) (env 8) 9 1 0 [] (.sl .nil 0 []) τ ∧ env 25 = .int .i64 (i:Nat) ∧ env 24 = .int .i64 l.length ∧ env 23 = .sl .no l.length (encTks l) ∧ env 6 = .sl .no l.length (encTks l)) (fun i => l.length - i) 0 ?_ ?_ ?_
    · simp only [upd_apply, envOf_apply, Nat.reduceEqDiff, if_true, if_false]
      exact ⟨Nat.zero_le _, RT.start hcl1, (by first | trivial | rfl | omega), (by first | trivial | rfl | omega), (by first | trivial | rfl | omega), (by first | trivial | rfl | omega)⟩
    · rintro i env τ ⟨hi, hR, h25, h24, h23, h6⟩
      rcases Nat.lt_or_ge i l.length with hlt | hge
      · have hn : (i : Int) < l.length := by omega
        have hl0 : 0 < (encTks l).length := by rw [encTks_len]; omega
        have hat := encTks_at hlt []
        rw [List.append_nil] at hat
        have hi4 : 4 ≤ (encTks l).length - i * 4 := by rw [encTks_len]; omega
        have hmk : ((l.take (i + 1)).map fun t => D.str t.text) = ((l.take i).map fun t => D.str t.text) ++ [.str l[i].text] := by rw [List.take_succ_eq_append_getElem hlt, List.map_append]; rfl
        have wi := wrap64_succ (k := i) (by simp only [big]; omega)
        simp only [encTk] at hat
        simp -dsimp only [h25, h24, h23, h6, hn, hlt, hl0, hat, hi4, exitR_exit, ↓preB, postB, genB, ↓reduceIte, Nat.reduceEqDiff, Int.reduceToNat, Int.reduceLE, Int.reduceLT, Nat.reduceAdd, Nat.reduceLeDiff, intBin, strBin, unD, extractD, lit1, lit2, lit3, keptD, boxR, D.one, D.pub1, D.cells, splice, cutOwn]
        obtain ⟨τ2, hτ2⟩ : ∃ τ2, τ2 = τ.new (.cells 43 [.int .i64 l[i].fr, .int .i64 l[i].to, .int .i64 l[i].kind, .str l[i].text]) := ⟨_, rfl⟩
        have hR2 : RT H 9 1 i ((l.take i).map fun t => .str t.text) (env 8) 9 1 0 [] (.sl .nil 0 []) τ2 := by rw [hτ2]; exact hR.new hcl1 _
        have hnx : τ.next + 1 = τ2.next := by rw [hτ2]; rfl
        rw [hnx, ← hτ2]
        clear hτ2 hnx
        refine hR2.appendRow hcl1 tz22 rfl tz9 rfl rfl rfl (by decide) (by simp; omega) (fedBy_sl (m := 1) tz22 rfl rfl) (by decide) (by simp only []; omega) (by simp only [big]; omega) fun d6 τ6 hR6 _ => ?_
        simp -dsimp only [h25, h24, h23, h6, exitR_exit, ↓preB, postB, genB, ↓reduceIte, Nat.reduceEqDiff, Int.reduceToNat, Int.reduceLE, Int.reduceLT, Nat.reduceAdd, Nat.reduceLeDiff, intBin, strBin, unD, extractD, lit1, lit2, lit3, keptD, boxR, D.one, D.pub1, D.cells, splice, cutOwn]
        refine ⟨i + 1, ⟨by omega, ?_, wi⟩, by omega⟩
        rw [hmk]
        exact hR6
      · have hn : ¬ (i : Int) < l.length := by omega
        have : i = l.length := by omega
        subst this
        simp -dsimp only [h25, h24, h23, h6, hn, exitR_exit, ↓preB, postB, genB, ↓reduceIte, Nat.reduceEqDiff, Int.reduceToNat, Int.reduceLE, Int.reduceLT, Nat.reduceAdd, Nat.reduceLeDiff, intBin, strBin, unD, extractD, lit1, lit2, lit3, keptD, boxR, D.one, D.pub1, D.cells, splice, cutOwn]
        rw [List.take_length] at hR
        have hh : (halfW l []).map D.str = l.map fun t => D.str t.text := by rw [half_nil, List.map_map]; rfl
        rw [hh]
        exact ⟨hR.one, hR.le⟩
    · rintro env τ ⟨hO, hle, h6⟩
      simp -dsimp only [h6, ↓preB, postB, genB, ↓reduceIte, Nat.reduceEqDiff, Int.reduceToNat, Int.reduceLE, Int.reduceLT, Nat.reduceAdd, Nat.reduceLeDiff, intBin, strBin, unD, extractD, lit1, lit2, lit3, keptD, boxR, D.one, D.pub1, D.cells, splice, cutOwn]
      refine Fn.use hB ?_
      have hBl : (beginsW l).length ≤ l.length := by have := List.length_filter_le (startB l) (List.range l.length); simpa [beginsW] using this
      have hmem : ∀ j ∈ beginsW l, j < l.length := fun j hj => List.mem_range.1 (List.mem_filter.1 hj).1
      have hnd : (beginsW l).Nodup := List.Pairwise.filter _ List.nodup_range
      simp -dsimp only [h6, ↓preB, postB, genB, ↓reduceIte, Nat.reduceEqDiff, Int.reduceToNat, Int.reduceLE, Int.reduceLT, Nat.reduceAdd, Nat.reduceLeDiff, intBin, strBin, unD, extractD, lit1, lit2, lit3, keptD, boxR, D.one, D.pub1, D.cells, splice, cutOwn]
      intro _
      refine pwp_loopJ 2 (fun e' τ => OneR 9 1 l.length H ((normW l).map .str) (e' 8) τ ∧ HLe H τ) (fun m env τ => m ≤ (beginsW l).length ∧ OneR 9 1 l.length H ((halfW l ((beginsW l).take m)).map .str) (env 8) τ ∧ HLe H τ ∧ env 38 = .int .i64 (m:Nat) ∧ env 37 = .int .i64 (beginsW l).length ∧ env 36 = .sl .no (beginsW l).length (encN (beginsW l)) ∧ env 6 = .sl .no l.length (encTks l)) (fun m => (beginsW l).length - m) 0 ?_ ?_ ?_
      · simp only [upd_apply, h6, Nat.reduceEqDiff, if_true, if_false]
        exact ⟨Nat.zero_le _, hO, hle, (by first | trivial | rfl | omega), (by first | trivial | rfl | omega), (by first | trivial | rfl | omega), (by first | trivial | rfl | omega)⟩
      · clear hO hle h6
        rintro m env τ ⟨hm, hO, hle, h38, h37, h36, h6⟩
        rcases Nat.lt_or_ge m (beginsW l).length with hlt | hge
        · have hn : (m : Int) < (beginsW l).length := by omega
          have hx : (encN (beginsW l))[m]? = some (.int .i64 ((beginsW l)[m] : Nat)) := by simp [encN, hlt]
          have hel2 : (encN (beginsW l)).length = (beginsW l).length := by simp [encN]
          have hst := half_step l (beginsW l) hlt
          have hj := hmem _ (List.getElem_mem hlt)
          have hp : 0 < (beginsW l).length := by omega
          have hnot : (beginsW l)[m] ∉ (beginsW l).take m := fun h => by
            obtain ⟨i, hi, he⟩ := List.getElem_of_mem h
            rw [List.getElem_take] at he
            have hi' : i < m := by have := hi; rw [List.length_take] at this; omega
            exact List.pairwise_iff_getElem.1 hnd i m (by omega) hlt hi' he
          have wm := wrap64_succ (k := m) (by simp only [big]; omega)
          generalize (beginsW l)[m] = j at hx hst hj hnot
          have hjn : (j : Int) < l.length := by omega
          have hhj : (halfW l ((beginsW l).take m))[j]? = some l[j].text := by
            simp only [halfW, List.getElem?_map, List.getElem?_range hj, Option.map_some, decide_eq_false hnot, Bool.false_eq_true, if_false, getD_at hj]
          have hhl := half_len l ((beginsW l).take m)
          generalize halfW l ((beginsW l).take m) = W at *
          rcases hO with ⟨h0, _, _⟩ | ⟨r, js, g8, hr0, hr, hn0⟩
          · omega
          have hWj : (W.map D.str ++ js)[j]? = some (.str l[j].text) := by
            rw [List.getElem?_append_left (by rw [List.length_map, hhl]; exact hj), List.getElem?_map, hhj]; rfl
          have hWl : (W.map D.str ++ js).length = l.length + js.length := by rw [List.length_append, List.length_map, hhl]
          simp -dsimp only [h38, h37, h36, h6, g8, hr, hn, hlt, hx, hel2, hp, hj, hjn, hWj, Nat.zero_add, exitR_exit, ↓preB, postB, genB, ↓reduceIte, Nat.reduceEqDiff, Int.reduceToNat, Int.reduceLE, Int.reduceLT, Nat.reduceAdd, Nat.reduceLeDiff, intBin, strBin, unD, extractD, lit1, lit2, lit3, keptD, boxR, D.one, D.pub1, D.cells, splice, cutOwn]
          have hl0 : 0 < (encTks l).length := by rw [encTks_len]; omega
          have hat := encTks_at hj []
          rw [List.append_nil] at hat
          have hj4 : 4 ≤ (encTks l).length - j * 4 := by rw [encTks_len]; omega
          have hX := isText_c l[j]
          have htx := (w2 _ (List.getElem_mem hj)).1
          rw [getD_at hj] at hst
          have stay : headW l[j] = l[j].text → ∃ y, (y ≤ (beginsW l).length ∧ OneR 9 1 l.length H ((halfW l ((beginsW l).take y)).map .str) (.row r 0 l.length none 1) τ ∧ HLe H τ ∧ IntKind.i64.wrap ((m : Int) + 1) = ((y : Nat) : Int)) ∧ (beginsW l).length - y < (beginsW l).length - m := fun h => by
            have hWs : W.set j l[j].text = W := by
              refine List.ext_getElem (by simp) fun i h1 h2 => ?_
              rw [List.getElem_set]
              split
              · rename_i e1
                subst e1
                rw [List.getElem?_eq_getElem h2] at hhj
                exact (Option.some.inj hhj).symm
              · rfl
            refine ⟨m + 1, ⟨by omega, ?_, hle, wm⟩, by omega⟩
            rw [hst, h, hWs]
            exact .inr ⟨r, js, rfl, hr0, hr, hn0⟩
          have hL := Lower_c l[j].text
          have hbt : byteAt l[j].text 0 = ((l[j].text.data.toList.getD 0 0).toNat : Int) := rfl
          unfold headW at stay hst
          simp only [encTk] at hat hX
          refine ⟨hl0, hj4, ?_⟩
          rw [hat]
          refine Fn.use hX ?_
          cases q1 : textB l[j]
          · rw [q1] at stay
            simp -dsimp only [h38, h37, h36, h6, g8, hr, hn, hlt, hx, hel2, hp, hj, hjn, hWj, hat, hl0, hj4, Nat.zero_add, q1, exitR_exit, gate, decide_true, decide_false, Bool.not_true, Bool.not_false, bTT, bTF, bFT, bFF, ↓preB, postB, genB, ↓reduceIte, Nat.reduceEqDiff, Int.reduceToNat, Int.reduceLE, Int.reduceLT, Nat.reduceAdd, Nat.reduceLeDiff, intBin, strBin, unD, extractD, lit1, lit2, lit3, keptD, boxR, D.one, D.pub1, D.cells, splice, cutOwn]
            exact stay rfl
          rw [q1, Bool.true_and] at stay hst
          obtain ⟨b, rs, hbr⟩ : ∃ b rs, l[j].text.data.toList = b :: rs := by
            cases hd : l[j].text.data.toList with
            | nil => have h1 : l[j].text.data.toList.length = 0 := by rw [hd]; rfl
                     have : l[j].text.size = 0 := h1
                     omega
            | cons b rs => exact ⟨b, rs, rfl⟩
          have hsz : l[j].text.size = rs.length + 1 := by
            have : l[j].text.data.toList.length = rs.length + 1 := by rw [hbr]; rfl
            exact this
          rw [hbr] at hbt
          have hb0 : byteAt l[j].text 0 = (b.toNat : Int) := hbt
          rw [hb0] at stay hst
          simp -dsimp only [h38, h37, h36, h6, g8, hr, hn, hlt, hx, hel2, hp, hj, hjn, hWj, hat, hl0, hj4, Nat.zero_add, q1, hbr, hsz, exitR_exit, gate, decide_true, decide_false, Bool.not_true, Bool.not_false, bTT, bTF, bFT, bFF, ↓preB, postB, genB, ↓reduceIte, Nat.reduceEqDiff, Int.reduceToNat, Int.reduceLE, Int.reduceLT, Nat.reduceAdd, Nat.reduceLeDiff, intBin, strBin, unD, extractD, lit1, lit2, lit3, keptD, boxR, D.one, D.pub1, D.cells, splice, cutOwn]
          refine ⟨⟨by omega, by omega⟩, Fn.use (isBigU_c b) ?_⟩
          have hbb : bigU b = isBigI (b.toNat : Int) := rfl
          rw [← hbb] at stay hst
          cases q2 : bigU b
          · rw [q2, Bool.false_and] at stay
            simp -dsimp only [h38, h37, h36, h6, g8, hr, hn, hlt, hx, hel2, hp, hj, hjn, hWj, hat, hl0, hj4, Nat.zero_add, q1, q2, exitR_exit, gate, decide_true, decide_false, Bool.not_true, Bool.not_false, bTT, bTF, bFT, bFF, ↓preB, postB, genB, ↓reduceIte, Nat.reduceEqDiff, Int.reduceToNat, Int.reduceLE, Int.reduceLT, Nat.reduceAdd, Nat.reduceLeDiff, intBin, strBin, unD, extractD, lit1, lit2, lit3, keptD, boxR, D.one, D.pub1, D.cells, splice, cutOwn]
            exact stay rfl
          rw [q2, Bool.true_and, caps_one hbr q2] at stay hst
          have hC := containsU_c rs bigU 18 [] (fun x _ => isBigU_c x)
          have hcells : ((b :: rs).map fun b => D.int .u8 (b.toNat : Int)).drop 1 = encU rs := rfl
          have c1 : (1 : Int) ≤ ((rs.length + 1 : Nat) : Int) := by omega
          simp -dsimp only [h38, h37, h36, h6, g8, hr, hn, hlt, hx, hel2, hp, hj, hjn, hWj, hat, hl0, hj4, Nat.zero_add, q1, q2, exitR_exit, gate, decide_true, decide_false, Bool.not_true, Bool.not_false, bTT, bTF, bFT, bFF, ↓preB, postB, genB, ↓reduceIte, Nat.reduceEqDiff, Int.reduceToNat, Int.reduceLE, Int.reduceLT, Nat.reduceAdd, Nat.reduceLeDiff, intBin, strBin, unD, extractD, lit1, lit2, lit3, keptD, boxR, D.one, D.pub1, D.cells, splice, cutOwn]
          have hcells2 : List.take (l[j].text.size - 1) (List.drop 1 (List.map (fun b => D.int IntKind.u8 (b.toNat : Int)) l[j].text.data.toList)) = encU rs := by
            rw [hbr, hcells, hsz]
            exact List.take_of_length_le (by simp [encU])
          rw [hcells2, show l[j].text.size - 1 = rs.length by omega]
          refine ⟨⟨by omega, Int.le_refl _, by rw [hbr, hsz]; rfl⟩, Fn.use hC ?_⟩
          cases q3 : rs.any bigU
          · rw [q3] at stay hst
            rw [Bool.not_false, if_pos rfl] at hst
            simp -dsimp only [h38, h37, h36, h6, g8, hr, hn, hlt, hx, hel2, hp, hj, hjn, hWj, hat, hl0, hj4, Nat.zero_add, q1, q2, q3, exitR_exit, gate, decide_true, decide_false, Bool.not_true, Bool.not_false, bTT, bTF, bFT, bFF, ↓preB, postB, genB, ↓reduceIte, Nat.reduceEqDiff, Int.reduceToNat, Int.reduceLE, Int.reduceLT, Nat.reduceAdd, Nat.reduceLeDiff, intBin, strBin, unD, extractD, lit1, lit2, lit3, keptD, boxR, D.one, D.pub1, D.cells, splice, cutOwn]
            refine Fn.use hL ?_
            simp -dsimp only [h38, h37, h36, h6, g8, hr, hn, hlt, hx, hel2, hp, hj, hjn, hWj, hat, hl0, hj4, Nat.zero_add, q1, q2, q3, exitR_exit, gate, decide_true, decide_false, Bool.not_true, Bool.not_false, bTT, bTF, bFT, bFF, ↓preB, postB, genB, ↓reduceIte, Nat.reduceEqDiff, Int.reduceToNat, Int.reduceLE, Int.reduceLT, Nat.reduceAdd, Nat.reduceLeDiff, intBin, strBin, unD, extractD, lit1, lit2, lit3, keptD, boxR, D.one, D.pub1, D.cells, splice, cutOwn]
            refine ⟨by rw [hWl]; omega, m + 1, ⟨by omega, ?_, hle.set_out _ hcl1 hr0, wm⟩, by omega⟩
            refine .inr ⟨r, js, rfl, hr0, ?_, hn0⟩
            rw [Heap.set_same, hst]
            congr 2
            rw [List.map_set, List.take_append_of_le_length (by simp; omega), List.drop_append_of_le_length (by simp; omega), List.set_eq_take_append_cons_drop, if_pos (by simp; omega)]
            simp
          · rw [q3] at stay
            simp -dsimp only [h38, h37, h36, h6, g8, hr, hn, hlt, hx, hel2, hp, hj, hjn, hWj, hat, hl0, hj4, Nat.zero_add, q1, q2, q3, exitR_exit, gate, decide_true, decide_false, Bool.not_true, Bool.not_false, bTT, bTF, bFT, bFF, ↓preB, postB, genB, ↓reduceIte, Nat.reduceEqDiff, Int.reduceToNat, Int.reduceLE, Int.reduceLT, Nat.reduceAdd, Nat.reduceLeDiff, intBin, strBin, unD, extractD, lit1, lit2, lit3, keptD, boxR, D.one, D.pub1, D.cells, splice, cutOwn]
            exact stay rfl
        · have hn : ¬ (m : Int) < (beginsW l).length := by omega
          have : m = (beginsW l).length := by omega
          subst this
          rw [List.take_length, half_all] at hO
          simp -dsimp only [h38, h37, h36, h6, hn, exitR_exit, ↓preB, postB, genB, ↓reduceIte, Nat.reduceEqDiff, Int.reduceToNat, Int.reduceLE, Int.reduceLT, Nat.reduceAdd, Nat.reduceLeDiff, intBin, strBin, unD, extractD, lit1, lit2, lit3, keptD, boxR, D.one, D.pub1, D.cells, splice, cutOwn]
          exact ⟨hO, hle⟩
      · clear hO hle h6
        rintro env τ ⟨hO, hle⟩
        simp -dsimp only [↓preB, postB, genB, ↓reduceIte, Nat.reduceEqDiff, Int.reduceToNat, Int.reduceLE, Int.reduceLT, Nat.reduceAdd, Nat.reduceLeDiff, intBin, strBin, unD, extractD, lit1, lit2, lit3, keptD, boxR, D.one, D.pub1, D.cells, splice, cutOwn]
        have e1 : (normW l).length = l.length := by simp [normW]
        refine Ret.less (hle1.trans hle) hcl (told2 (N := 0) ?_) (bel2 (.no (bel_strs _)))
        show Told τ σ (env 8) (encSS (normW l))
        unfold encSS
        rw [e1]
        rcases hO with ⟨h0, h1, h2⟩ | ⟨r, js, g8, hr0, hr, hn0⟩
        · rw [h2, h1, h0]
          exact told_nil
        · rw [g8]
          refine .row r 0 l.length none 1 9 _ _ hr ?_ (by simp [e1]) (by simp [e1]) fun i h1 h2 => ?_
          · cases hx : σ.get r with
            | none => rfl
            | some o => exact absurd (hcl.lt _ _ hx) (by have := hle1.next; omega)
          · have hi : i < ((normW l).map D.str).length := by simpa using h2
            have e2 : (((normW l).map D.str ++ js)[0 + i]'(by simp; omega)) = ((normW l).map D.str)[i] := by
              simp only [Nat.zero_add]
              rw [List.getElem_append_left hi]
            rw [e2]
            exact .refl _
  · have c0 : (e != 0) = true := by simpa using e0
    rw [if_pos e0]
    simp -dsimp only [c0, List.getElem?_cons_zero, List.getElem?_cons_succ, gate, decide_true, decide_false, Bool.not_true, Bool.not_false, bTT, bTF, bFT, bFF, ↓preB, postB, genB, ↓reduceIte, Nat.reduceEqDiff, Int.reduceToNat, Int.reduceLE, Int.reduceLT, Nat.reduceAdd, Nat.reduceLeDiff, intBin, strBin, unD, extractD, lit1, lit2, lit3, keptD, boxR, D.one, D.pub1, D.cells, splice, cutOwn]
    exact Ret.less hle1 hcl (told2 (N := 0) told_nil) (bel2 (.no (bel_strs [])))
end Go.Proofs.YtapkbkniooleaaaGreat.Vs
