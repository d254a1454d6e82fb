/- numbers of YtldlcejlfaogbaaGreatDoor -/
import Derived.Test.YtldlcejlfaogbaaGreatDoorTxB
import Derived.Test.YtldlcejlfaogbaaGreatDoorMgA
namespace Go.Proofs.YtldlcejlfaogbaaGreatDoor.Vs
set_option linter.unusedVariables false
set_option linter.unusedSimpArgs false
set_option maxRecDepth 100000
theorem rows2 (r : Sh) : ∃ l2 : List Wd, l2 = [r.From, r.To] := ⟨_, rfl⟩
theorem writL_zero {w : Wd} (h : badW w = 0) : (writB w == (⟨#[]⟩ : ByteArray)) = decide (w.length = 0) := by
  cases w with
  | nil => rfl
  | cons x w =>
    have hg := (badW_good h).2.2 x (by simp)
    have hne : writL (x :: w) ≠ [] := by
      rw [writL]
      split
      · intro e
        exact hg.1 (List.append_eq_nil_iff.1 e).1
      · intro e; simp at e
    rw [show (⟨#[]⟩ : ByteArray) = toB [] from rfl, writB_toB, toB_beq]
    simp [hne]
theorem Text_c (t : List Sh) : Fn Zs 27 [encT t] (.tup [.str (textR t).1, .int .i64 (textR t).2]) := by
  refine fn_of (Z := Zs) ok27 fun σ hcl hbl => ?_
  simp -dsimp only [L27, ↓preB, postB, genB, ↓reduceIte, Nat.reduceEqDiff, Int.reduceToNat, Int.reduceLE, Int.reduceLT, Nat.reduceAdd, Nat.reduceLeDiff, intBin, strBin, unD, extractD, lit1, lit2, lit3, keptD, boxR, D.one, D.pub1, D.cells, splice, cutOwn]
  refine Fn.use (validate_c t) ?_
  cases ca : (badT t != 0)
  case true =>
    have c' : badT t ≠ 0 := by simpa using ca
    simp -dsimp only [ca, ↓preB, postB, genB, ↓reduceIte, Nat.reduceEqDiff, Int.reduceToNat, Int.reduceLE, Int.reduceLT, Nat.reduceAdd, Nat.reduceLeDiff, intBin, strBin, unD, extractD, lit1, lit2, lit3, keptD, boxR, D.one, D.pub1, D.cells, splice, cutOwn]
    exact Ret.is (by rw [textR, if_pos c'])
  have ht : badT t = 0 := by simpa using ca
  obtain ⟨a3, a4, _⟩ := badT_zero ht
  obtain ⟨a6, _⟩ := table_ok ht
  have a5 := firstE_zero a4
  simp -dsimp only [ca, encT, ↓preB, postB, genB, ↓reduceIte, Nat.reduceEqDiff, Int.reduceToNat, Int.reduceLE, Int.reduceLT, Nat.reduceAdd, Nat.reduceLeDiff, intBin, strBin, unD, extractD, lit1, lit2, lit3, keptD, boxR, D.one, D.pub1, D.cells, splice, cutOwn]
  intro hbig
  refine pwp_loopG (fun k env s => k ≤ t.length ∧ (∀ r ∈ t.take k, brkR r = false) ∧ HLe σ s ∧ env 5 = .str ⟨#[]⟩ ∧ env 22 = .int .i64 (k:Nat) ∧ env 21 = .int .i64 t.length ∧ env 20 = encT t ∧ env 0 = encT t) (fun k => t.length - k) 0 ?_ ?_
  · simp only [upd_apply, envOf_apply, encT, Nat.reduceEqDiff, if_true, if_false]
    exact ⟨Nat.zero_le _, fun r hr => by simp at hr, HLe.refl _, trivial, rfl, trivial, trivial, rfl⟩
  · rintro k env s ⟨hk, hb, hH, h5, h22, h21, h20, h0⟩
    rcases Nat.lt_or_ge k t.length with hlt | hge
    · have hd := rowsD_at hlt
      have hpos : 0 < (rowsD t).length := by rw [rowsD_len]; omega
      have hmem := List.getElem_mem hlt
      have hbs : ∀ r ∈ t.take (k + 1), brkR r = false ∨ r = t[k] := fun r hr => by
        rw [List.take_succ_eq_append_getElem hlt] at hr
        rcases List.mem_append.1 hr with h | h
        · exact .inl (hb r h)
        · exact .inr (List.mem_singleton.1 h)
      generalize t[k] = r at *
      simp -dsimp only [h5, h22, h21, h20, h0, encT, encSS, hlt, hd, hpos, hbig, ↓preB, postB, genB, ↓reduceIte, Nat.reduceEqDiff, Int.reduceToNat, Int.reduceLE, Int.reduceLT, Nat.reduceAdd, Nat.reduceLeDiff, intBin, strBin, unD, extractD, lit1, lit2, lit3, keptD, boxR, D.one, D.pub1, D.cells, splice, cutOwn]
      intro hb2
      have hH1 : ∀ o, HLe σ (s.new o) := fun o => hH.new' o hcl
      obtain ⟨l2, hl2⟩ := rows2 r
      have hlen : l2.length = 2 := by rw [hl2]; rfl
      have hmap : l2.map encSS = [encSS r.From, encSS r.To] := by rw [hl2]; rfl
      refine pwp_loopG (fun j env' s' => j ≤ 2 ∧ (∀ w ∈ l2.take j, brkW w = false) ∧ HLe σ s' ∧ env' 5 = .str ⟨#[]⟩ ∧ env' 32 = .int .i64 (j:Nat) ∧ env' 31 = .int .i64 2 ∧ env' 30 = .sl .full 2 (l2.map encSS) ∧ env' 22 = .int .i64 (k:Nat) ∧ env' 21 = .int .i64 t.length ∧ env' 20 = encT t ∧ env' 0 = encT t) (fun j => 2 - j) 0 ?_ ?_
      · simp only [upd_apply, Nat.reduceEqDiff, if_true, if_false, h5, h22, h21, h20, h0, hmap]
        exact ⟨by omega, fun w hw => by simp at hw, hH1 _, trivial, rfl, rfl, rfl, trivial, trivial, trivial, trivial⟩
      · rintro j env' s' ⟨hj, hq, hH', h5, h32, h31, h30, h22, h21, h20, h0⟩
        rcases Nat.lt_or_ge j 2 with hj2 | hj2
        · have hjl : j < l2.length := by omega
          have hx : l2[j]? = some l2[j] := List.getElem?_eq_getElem hjl
          have hj2' : (j : Int) < 2 := by omega
          have hlp : 0 < l2.length := by omega
          have hin : l2[j] ∈ [r.From, r.To] := by rw [← hl2]; exact List.getElem_mem hjl
          have hnx : brkW l2[j] = false → ∀ w ∈ l2.take (j + 1), brkW w = false := fun h w hw => by
            rw [List.take_succ_eq_append_getElem hjl] at hw
            rcases List.mem_append.1 hw with h1 | h1
            · exact hq w h1
            · rw [List.mem_singleton.1 h1]; exact h
          have herr : brkW l2[j] = true → textR t = (⟨#[]⟩, 1) := fun h => by
            have : brkR r = true := by
              simp only [List.mem_cons, List.not_mem_nil, or_false] at hin
              rw [brkR]
              rcases hin with e | e
              · rw [← e, h]; rfl
              · rw [← e, h, Bool.or_true]
            rw [textR, if_neg (by simpa using ht), if_pos (List.any_eq_true.2 ⟨r, hmem, this⟩)]
          generalize l2[j] = w at *
          simp -dsimp only [h5, h32, h31, h30, h22, h21, h20, h0, hj2', hx, hlp, ↓preB, postB, genB, ↓reduceIte, Nat.reduceEqDiff, Int.reduceToNat, Int.reduceLE, Int.reduceLT, Nat.reduceAdd, Nat.reduceLeDiff, intBin, strBin, unD, extractD, lit1, lit2, lit3, keptD, boxR, D.one, D.pub1, D.cells, splice, cutOwn]
          refine ⟨hj2, ?_⟩
          have go : brkW w = false → j + 1 ≤ 2 ∧ (∀ w ∈ l2.take (j + 1), brkW w = false) ∧ HLe σ s' ∧ IntKind.i64.wrap ((j : Int) + 1) = ((j + 1 : Nat) : Int) := fun h => ⟨by omega, hnx h, hH', wrap64_succ (by simp only [big]; omega)⟩
          have stop : brkW w = true → Ret σ (fun d τ => d = D.tup [.str (textR t).1, .int .i64 (textR t).2] ∧ τ = σ) (D.tup [.str ⟨#[]⟩, .int .i64 1]) s' := fun h => Ret.isH hH' hcl (by rw [herr h]) (.tup2 (by rw [herr h]; exact .str _) (.int _ _))
          by_cases h2 : w.length = 2
          · obtain ⟨a, b, rfl⟩ := two_of h2
            cases h3 : (a == (⟨#[91]⟩ : ByteArray)) <;> cases h4 : (b == (⟨#[93]⟩ : ByteArray)) <;>
            · have hr : brkW [a, b] = ((a == (⟨#[91]⟩ : ByteArray)) && (b == (⟨#[93]⟩ : ByteArray))) := rfl
              rw [h3, h4] at hr
              simp -dsimp only [h5, h32, h31, h30, h22, h21, h20, h0, hj2', hx, hlp, encSS, h3, h4, List.length_cons, List.length_nil, List.map_cons, List.map_nil, gate, show (((2 : Nat) : Int) == 2) = true from rfl, show (true == true) = true from rfl, show (false == true) = false from rfl, ↓preB, postB, genB, ↓reduceIte, Nat.reduceEqDiff, Int.reduceToNat, Int.reduceLE, Int.reduceLT, Nat.reduceAdd, Nat.reduceLeDiff, intBin, strBin, unD, extractD, lit1, lit2, lit3, keptD, boxR, D.one, D.pub1, D.cells, splice, cutOwn]
              intros
              first | exact ⟨⟨by decide, by decide⟩, ⟨by decide, by decide⟩, stop hr⟩ | exact ⟨⟨by decide, by decide⟩, ⟨by decide, by decide⟩, j + 1, go hr, by omega⟩ | exact ⟨⟨by decide, by decide⟩, j + 1, go hr, by omega⟩
          · have e0 : ((w.length : Int) == 2) = false := by simp only [beq_eq_false_iff_ne, ne_eq]; omega
            have hr := brkW_len h2
            simp -dsimp only [h5, h32, h31, h30, h22, h21, h20, h0, hj2', hx, hlp, e0, encSS, gate, show (false == true) = false from rfl, ↓preB, postB, genB, ↓reduceIte, Nat.reduceEqDiff, Int.reduceToNat, Int.reduceLE, Int.reduceLT, Nat.reduceAdd, Nat.reduceLeDiff, intBin, strBin, unD, extractD, lit1, lit2, lit3, keptD, boxR, D.one, D.pub1, D.cells, splice, cutOwn]
            intros
            exact ⟨j + 1, go hr, by omega⟩
        · have hj2' : ¬ (j : Int) < 2 := by omega
          have hj3 : j = 2 := by omega
          simp -dsimp only [h5, h32, h31, h30, h22, h21, h20, h0, hj2', ↓preB, postB, genB, ↓reduceIte, Nat.reduceEqDiff, Int.reduceToNat, Int.reduceLE, Int.reduceLT, Nat.reduceAdd, Nat.reduceLeDiff, intBin, strBin, unD, extractD, lit1, lit2, lit3, keptD, boxR, D.one, D.pub1, D.cells, splice, cutOwn]
          refine ⟨k + 1, ⟨by omega, fun x hx => ?_, hH', wrap64_succ (by simp only [big]; omega)⟩, by omega⟩
          rcases hbs x hx with h | h
          · exact h
          · rw [hj3, List.take_of_length_le (by omega), hl2] at hq
            rw [h, brkR, hq r.From (by simp), hq r.To (by simp)]; rfl
    · have hkl : k = t.length := by omega
      rw [hkl, List.take_length] at hb
      have hnb : t.any brkR = false := List.any_eq_false.2 fun r hr => by rw [hb r hr]; simp
      have htr : textR t = if (t.any longR || decide (6000 < (textL t).length)) = true then (⟨#[]⟩, 3) else (toB (textL t), 0) := by
        rw [textR, if_neg (by simpa using ht), if_neg (by rw [hnb]; simp)]
      have bad : ∀ s', HLe σ s' → textR t = (⟨#[]⟩, 3) → Ret σ (fun d τ => d = D.tup [.str (textR t).1, .int .i64 (textR t).2] ∧ τ = σ) (D.tup [.str ⟨#[]⟩, .int .i64 3]) s' := fun s' hH' h => Ret.isH hH' hcl (by rw [h]) (.tup2 (by rw [h]; exact .str _) (.int _ _))
      simp -dsimp only [h5, h22, h21, h20, h0, encT, Nat.not_lt.2 hge, hbig, ↓preB, postB, genB, ↓reduceIte, Nat.reduceEqDiff, Int.reduceToNat, Int.reduceLE, Int.reduceLT, Nat.reduceAdd, Nat.reduceLeDiff, intBin, strBin, unD, extractD, lit1, lit2, lit3, keptD, boxR, D.one, D.pub1, D.cells, splice, cutOwn]
      refine pwp_loopG (fun k env s => k ≤ t.length ∧ (∀ r ∈ t.take k, longR r = false) ∧ HLe σ s ∧ env 5 = .str (toB (textL (t.take k))) ∧ env 55 = .int .i64 (k:Nat) ∧ env 54 = .int .i64 t.length ∧ env 53 = encT t ∧ env 0 = encT t) (fun k => t.length - k) 0 ?_ ?_
      · simp only [upd_apply, envOf_apply, encT, Nat.reduceEqDiff, if_true, if_false, h0, h5]
        refine ⟨Nat.zero_le _, fun r hr => by simp at hr, hH, ?_⟩
        exact ⟨rfl, by simp⟩
      · clear h5 h22 h21 h20 h0 hH hk hge
        clear env s k hkl
        rintro k env s ⟨hk, hl, hH, h5, h55, h54, h53, h0⟩
        rcases Nat.lt_or_ge k t.length with hlt | hge
        · have hd := rowsD_at hlt
          have hpos : 0 < (rowsD t).length := by rw [rowsD_len]; omega
          have hmem := List.getElem_mem hlt
          have hr := a5 _ hmem
          have htx := textL_take hlt
          have hlen := textL_len (t := t.take k) fun r hr => a5 r (List.mem_of_mem_take hr)
          rw [List.length_take] at hlen
          have hl1 := writL_len' hr.1
          have hl2 := writL_len' hr.2
          have hls : ∀ r ∈ t.take (k + 1), longR r = false ∨ r = t[k] := fun r hr => by
            rw [List.take_succ_eq_append_getElem hlt] at hr
            rcases List.mem_append.1 hr with h | h
            · exact .inl (hl r h)
            · exact .inr (List.mem_singleton.1 h)
          generalize t[k] = r at *
          have herr : longR r = true → textR t = (⟨#[]⟩, 3) := fun h => by
            rw [htr, if_pos (by rw [List.any_eq_true.2 ⟨r, hmem, h⟩]; rfl)]
          have hz3 := toB_size (textL (t.take k))
          have zb : ∀ w : Wd, (writB w).size = (writL w).length := fun w => toB_size _
          have z3 : (ByteArray.mk #[32, 61, 32]).size = 3 := rfl
          have z2 : (ByteArray.mk #[91, 93]).size = 2 := rfl
          have z1 : (ByteArray.mk #[10]).size = 1 := rfl
          have hzf := zb r.From
          have e00 : ((0 : Int) != 0) = false := rfl
          have e30 : ((3 : Int) != 0) = true := rfl
          have hzt := zb r.To
          simp -dsimp only [h5, h55, h54, h53, h0, encT, hlt, hd, hpos, hbig, ↓preB, postB, genB, ↓reduceIte, Nat.reduceEqDiff, Int.reduceToNat, Int.reduceLE, Int.reduceLT, Nat.reduceAdd, Nat.reduceLeDiff, intBin, strBin, unD, extractD, lit1, lit2, lit3, keptD, boxR, D.one, D.pub1, D.cells, splice, cutOwn]
          have hH1 : ∀ o, HLe σ (s.new o) := fun o => hH.new' o hcl
          refine Fn.use (symsText_c r.From hr.1) ?_
          by_cases b1 : 400 < (writL r.From).length
          · simp -dsimp only [if_pos b1, e00, e30, h5, h55, h54, h53, h0, ↓preB, postB, genB, ↓reduceIte, Nat.reduceEqDiff, Int.reduceToNat, Int.reduceLE, Int.reduceLT, Nat.reduceAdd, Nat.reduceLeDiff, intBin, strBin, unD, extractD, lit1, lit2, lit3, keptD, boxR, D.one, D.pub1, D.cells, splice, cutOwn]
            exact bad _ (hH1 _) (herr (by rw [longR, decide_eq_true b1]; rfl))
          simp -dsimp only [if_neg b1, e00, e30, h5, h55, h54, h53, h0, ↓preB, postB, genB, ↓reduceIte, Nat.reduceEqDiff, Int.reduceToNat, Int.reduceLE, Int.reduceLT, Nat.reduceAdd, Nat.reduceLeDiff, intBin, strBin, unD, extractD, lit1, lit2, lit3, keptD, boxR, D.one, D.pub1, D.cells, splice, cutOwn]
          refine Fn.use (symsText_c r.To hr.2) ?_
          by_cases b2 : 400 < (writL r.To).length
          · have hw : wordL r.To = writL r.To := by rw [wordL, if_neg fun h => by rw [List.eq_nil_of_length_eq_zero h] at b2; simp [writL] at b2]
            simp -dsimp only [if_pos b2, e00, e30, h5, h55, h54, h53, h0, ↓preB, postB, genB, ↓reduceIte, Nat.reduceEqDiff, Int.reduceToNat, Int.reduceLE, Int.reduceLT, Nat.reduceAdd, Nat.reduceLeDiff, intBin, strBin, unD, extractD, lit1, lit2, lit3, keptD, boxR, D.one, D.pub1, D.cells, splice, cutOwn]
            exact bad _ (hH1 _) (herr (by rw [longR, hw, decide_eq_true b2, Bool.or_true]))
          have hlr : longR r = false := by
            rw [longR, decide_eq_false b1, Bool.false_or]
            refine decide_eq_false ?_
            unfold wordL
            split
            · simp
            · exact b2
          have hls' : ∀ x ∈ t.take (k + 1), longR x = false := fun x hx => by
            rcases hls x hx with h | h
            · exact h
            · rw [h]; exact hlr
          have hzz := writL_zero hr.2
          by_cases h0' : r.To.length = 0
          · rw [decide_eq_true h0'] at hzz
            simp -dsimp only [if_neg b2, e00, e30, hzz, h5, h55, h54, h53, h0, ↓preB, postB, genB, ↓reduceIte, Nat.reduceEqDiff, Int.reduceToNat, Int.reduceLE, Int.reduceLT, Nat.reduceAdd, Nat.reduceLeDiff, intBin, strBin, unD, extractD, lit1, lit2, lit3, keptD, boxR, D.one, D.pub1, D.cells, splice, cutOwn]
            refine ⟨by simp only [big]; omega, by rw [ByteArray.size_append]; simp only [big]; omega, by rw [ByteArray.size_append, ByteArray.size_append]; simp only [big]; omega, by rw [ByteArray.size_append, ByteArray.size_append, ByteArray.size_append]; simp only [big]; omega, k + 1, ⟨by omega, hls', hH1 _, ?_, wrap64_succ (by simp only [big]; omega)⟩, by omega⟩
            rw [htx, rowTx, wordL, if_pos h0']
            exact ba_ext' (by simp [toB, writB])
          · rw [decide_eq_false h0'] at hzz
            simp -dsimp only [if_neg b2, e00, e30, hzz, h5, h55, h54, h53, h0, ↓preB, postB, genB, ↓reduceIte, Nat.reduceEqDiff, Int.reduceToNat, Int.reduceLE, Int.reduceLT, Nat.reduceAdd, Nat.reduceLeDiff, intBin, strBin, unD, extractD, lit1, lit2, lit3, keptD, boxR, D.one, D.pub1, D.cells, splice, cutOwn]
            refine ⟨by simp only [big]; omega, by rw [ByteArray.size_append]; simp only [big]; omega, by rw [ByteArray.size_append, ByteArray.size_append]; simp only [big]; omega, by rw [ByteArray.size_append, ByteArray.size_append, ByteArray.size_append]; simp only [big]; omega, k + 1, ⟨by omega, hls', hH1 _, ?_, wrap64_succ (by simp only [big]; omega)⟩, by omega⟩
            rw [htx, rowTx, wordL, if_neg h0']
            exact ba_ext' (by simp [toB, writB])
        · have hkl : k = t.length := by omega
          rw [hkl, List.take_length] at h5 hl
          have hnl : t.any longR = false := List.any_eq_false.2 fun r hr => by rw [hl r hr]; simp
          rw [hnl, Bool.false_or] at htr
          have hsz := toB_size (textL t)
          by_cases h60 : 6000 < (textL t).length
          · have c6 : (6000 : Int) < (textL t).length := by omega
            rw [decide_eq_true h60, if_pos rfl] at htr
            simp -dsimp only [h5, h55, h54, h53, h0, encT, Nat.not_lt.2 hge, hsz, c6, ↓preB, postB, genB, ↓reduceIte, Nat.reduceEqDiff, Int.reduceToNat, Int.reduceLE, Int.reduceLT, Nat.reduceAdd, Nat.reduceLeDiff, intBin, strBin, unD, extractD, lit1, lit2, lit3, keptD, boxR, D.one, D.pub1, D.cells, splice, cutOwn]
            intros
            exact bad _ hH htr
          · have c6 : ¬ (6000 : Int) < (textL t).length := by omega
            rw [decide_eq_false h60, if_neg (by decide)] at htr
            simp -dsimp only [h5, h55, h54, h53, h0, encT, Nat.not_lt.2 hge, hsz, c6, ↓preB, postB, genB, ↓reduceIte, Nat.reduceEqDiff, Int.reduceToNat, Int.reduceLE, Int.reduceLT, Nat.reduceAdd, Nat.reduceLeDiff, intBin, strBin, unD, extractD, lit1, lit2, lit3, keptD, boxR, D.one, D.pub1, D.cells, splice, cutOwn]
            intros
            exact Ret.isH hH hcl (by rw [htr]) (.tup2 (.str _) (.int _ _))
end Go.Proofs.YtldlcejlfaogbaaGreatDoor.Vs
