/- numbers of Ythchlpikcpidaaa -/
import Derived.Test.YthchlpikcpidaaaGuR5
namespace Go.Proofs.Ythchlpikcpidaaa.Vs
set_option linter.unusedVariables false
set_option linter.unusedSimpArgs false
set_option maxRecDepth 100000
theorem len_subM {α : Type} : ∀ {L M : List α}, L.Nodup → (∀ t ∈ L, t ∈ M) → L.length ≤ M.length
  | [], M, _, _ => Nat.zero_le _
  | a :: L, M, hn, hs => by
    rw [List.nodup_cons] at hn
    obtain ⟨M1, M2, rfl⟩ := List.append_of_mem (hs a List.mem_cons_self)
    have := len_subM (L := L) (M := M1 ++ M2) hn.2 fun t ht => by
      have h1 := hs t (List.mem_cons_of_mem _ ht)
      have hne : t ≠ a := fun e => hn.1 (e ▸ ht)
      simp only [List.mem_append, List.mem_cons] at h1 ⊢
      rcases h1 with h1 | h1 | h1
      · exact .inl h1
      · exact absurd h1 hne
      · exact .inr h1
    simp only [List.length_append, List.length_cons] at this ⊢
    omega
theorem big5 {l : List Smp} (hl : ∀ x ∈ l, fineS x) (h200 : l.length ≤ 200) : Big5 (cfL l) := fun L hn hL => by
  have := len_subM (L := L) (M := noB :: tagL l) hn fun t ht => by
    by_cases h : t = noB
    · exact List.mem_cons.2 (.inl h)
    · refine List.mem_cons.2 (.inr ?_)
      have := hL t ht
      rw [cf_tag hl] at this
      exact (cnt_tag (fun x hx => (hl x hx).2.2) h).1 this
  simp [tagL] at this
  omega
theorem some_tag {l : List Smp} (hl : ∀ x ∈ l, fineS x) (h : cfL l noB noB ≠ 0) : ∃ t, t ≠ noB ∧ cfL l noB t ≠ 0 := by
  cases l with
  | nil => exact absurd rfl h
  | cons x l =>
    have hx := hl x List.mem_cons_self
    have htn := nm_ne hx.2.1
    refine ⟨x.tag, htn, ?_⟩
    rw [cf_tag hl]
    exact (cnt_tag (fun x hx => (hl x hx).2.2) htn).2 (by simp [tagL])
theorem askE_w (none : Bool) (w : Wd) : askE none [w] = if badW w ≠ 0 then badW w else if none = true then 4 else 0 := by
  unfold askE
  rw [badLL_one]
theorem ranks_c (l : List Smp) (w : Wd) : Fn Zs 5 [encS l, encSS w] (.bool true) := by
  refine fn_of (Z := Zs) ok5 fun σ hcl hbl => ?_
  simp -dsimp only [L5, ↓preB, postB, genB, ↓reduceIte, Nat.reduceEqDiff, Int.reduceToNat, Int.reduceLE, Int.reduceLT, Nat.reduceAdd, Nat.reduceLeDiff, intBin, strBin, unD, extractD, lit1, lit2, lit3, keptD, boxR, D.one, D.pub1, D.cells, splice, cutOwn]
  refine Says.use (over_c l) ?_
  rintro _ ⟨b, rfl⟩
  cases b
  · simp -dsimp only [encSS, gate, uTT, uTF, uFT, uFF, ↓preB, postB, genB, ↓reduceIte, Nat.reduceEqDiff, Int.reduceToNat, Int.reduceLE, Int.reduceLT, Nat.reduceAdd, Nat.reduceLeDiff, intBin, strBin, unD, extractD, lit1, lit2, lit3, keptD, boxR, D.one, D.pub1, D.cells, splice, cutOwn]
    refine Says.useP (IsLong_c [w]) rfl ?_
    rintro _ ⟨b, rfl⟩
    cases b
    · simp -dsimp only [↓preB, postB, genB, ↓reduceIte, Nat.reduceEqDiff, Int.reduceToNat, Int.reduceLE, Int.reduceLT, Nat.reduceAdd, Nat.reduceLeDiff, intBin, strBin, unD, extractD, lit1, lit2, lit3, keptD, boxR, D.one, D.pub1, D.cells, splice, cutOwn]
      refine PCall.use (new_c l σ) ?_
      rintro d τ ⟨hle, ⟨h0, rfl⟩ | ⟨h0, q, rfl, hPG⟩⟩
      · simp -dsimp only [↓preB, postB, genB, ↓reduceIte, Nat.reduceEqDiff, Int.reduceToNat, Int.reduceLE, Int.reduceLT, Nat.reduceAdd, Nat.reduceLeDiff, intBin, strBin, unD, extractD, lit1, lit2, lit3, keptD, boxR, D.one, D.pub1, D.cells, splice, cutOwn]
        refine PCall.use (refNew_c l τ) ?_
        rintro d τ2 ⟨hle2, ⟨h1, rfl⟩ | ⟨h1, _⟩⟩
        · simp -dsimp only [↓preB, postB, genB, ↓reduceIte, Nat.reduceEqDiff, Int.reduceToNat, Int.reduceLE, Int.reduceLT, Nat.reduceAdd, Nat.reduceLeDiff, intBin, strBin, unD, extractD, lit1, lit2, lit3, keptD, boxR, D.one, D.pub1, D.cells, splice, cutOwn]
          refine Fn.use (Rank0_c w) ?_
          simp -dsimp only [↓preB, postB, genB, ↓reduceIte, Nat.reduceEqDiff, Int.reduceToNat, Int.reduceLE, Int.reduceLT, Nat.reduceAdd, Nat.reduceLeDiff, intBin, strBin, unD, extractD, lit1, lit2, lit3, keptD, boxR, D.one, D.pub1, D.cells, splice, cutOwn]
          refine Fn.use (refRank0_c w) ?_
          simp -dsimp only [↓preB, postB, genB, ↓reduceIte, Nat.reduceEqDiff, Int.reduceToNat, Int.reduceLE, Int.reduceLT, Nat.reduceAdd, Nat.reduceLeDiff, intBin, strBin, unD, extractD, lit1, lit2, lit3, keptD, boxR, D.one, D.pub1, D.cells, splice, cutOwn]
          refine Fn.use (Sure0_c w) ?_
          simp -dsimp only [↓preB, postB, genB, ↓reduceIte, Nat.reduceEqDiff, Int.reduceToNat, Int.reduceLE, Int.reduceLT, Nat.reduceAdd, Nat.reduceLeDiff, intBin, strBin, unD, extractD, lit1, lit2, lit3, keptD, boxR, D.one, D.pub1, D.cells, splice, cutOwn]
          refine Fn.use (refSure0_c w) ?_
          have ea : askE true [w] = if badW w ≠ 0 then badW w else 4 := by rw [askE_w]; rfl
          rw [ea]
          simp -dsimp only [beq_self_eq_true, gate, uTT, uTF, uFT, uFF, ↓preB, postB, genB, ↓reduceIte, Nat.reduceEqDiff, Int.reduceToNat, Int.reduceLE, Int.reduceLT, Nat.reduceAdd, Nat.reduceLeDiff, intBin, strBin, unD, extractD, lit1, lit2, lit3, keptD, boxR, D.one, D.pub1, D.cells, splice, cutOwn]
          refine Fn.useP (Same_c [] []) rfl ?_
          have es : eqW [] [] = true := rfl
          simp -dsimp only [es, beq_self_eq_true, gate, uTT, uTF, uFT, uFF, ↓preB, postB, genB, ↓reduceIte, Nat.reduceEqDiff, Int.reduceToNat, Int.reduceLE, Int.reduceLT, Nat.reduceAdd, Nat.reduceLeDiff, intBin, strBin, unD, extractD, lit1, lit2, lit3, keptD, boxR, D.one, D.pub1, D.cells, splice, cutOwn]
          refine Fn.use known_c ?_
          simp -dsimp only [↓preB, postB, genB, ↓reduceIte, Nat.reduceEqDiff, Int.reduceToNat, Int.reduceLE, Int.reduceLT, Nat.reduceAdd, Nat.reduceLeDiff, intBin, strBin, unD, extractD, lit1, lit2, lit3, keptD, boxR, D.one, D.pub1, D.cells, splice, cutOwn]
          exact Ret.less (hle.trans hle2) hcl (.refl _) (.bool _)
        · exact absurd h1 h0
      · simp -dsimp only [↓preB, postB, genB, ↓reduceIte, Nat.reduceEqDiff, Int.reduceToNat, Int.reduceLE, Int.reduceLT, Nat.reduceAdd, Nat.reduceLeDiff, intBin, strBin, unD, extractD, lit1, lit2, lit3, keptD, boxR, D.one, D.pub1, D.cells, splice, cutOwn]
        refine PCall.use (refNew_c l τ) ?_
        rintro d τ2 ⟨hle2, ⟨h1, _⟩ | ⟨_, q2, rfl, hRG⟩⟩
        · exact absurd h0 h1
        · obtain ⟨h200, hbs⟩ := newE_fine h0
          obtain ⟨hfine, htot⟩ := badS_ok hbs
          have hF : Fine (allR l) := allR_fine (fun x hx => (hfine x hx).2.2) htot
          have hlen : (allR l).length ≤ 100000 := by have := allR_len l; omega
          have hPG2 := hPG.more hle2
          have hnc := cfL_nice hfine htot
          have hb5 := big5 hfine h200
          have hst := some_tag hfine
          have hz : cfL l noB noB = 0 ↔ allR l = [] := by rw [cf_tot hfine, tot_zero hfine, allR_nil]
          have fin : ∀ s, HLe σ s → Ret σ (fun d τ => d = .bool true ∧ τ = σ) (.bool true) s := fun s hs => Ret.less hs hcl (.refl _) (.bool _)
          simp -dsimp only [↓preB, postB, genB, ↓reduceIte, Nat.reduceEqDiff, Int.reduceToNat, Int.reduceLE, Int.reduceLT, Nat.reduceAdd, Nat.reduceLeDiff, intBin, strBin, unD, extractD, lit1, lit2, lit3, keptD, boxR, D.one, D.pub1, D.cells, splice, cutOwn]
          refine PCall.use (Rank_p w q (mfL l) (cfL l) hnc hb5 σ τ2 hPG2 hst) ?_
          rintro d1 τ3 ⟨hτ3, hd1⟩
          subst hτ3
          rcases hd1 with ⟨c1, rfl⟩ | ⟨c1, c2, rfl⟩ | ⟨c1, c2, L, hR, hL0, rfl⟩
          · have ea : askE (decide (allR l = [])) [w] = badW w := by rw [askE_w, if_pos c1]
            simp -dsimp only [↓preB, postB, genB, ↓reduceIte, Nat.reduceEqDiff, Int.reduceToNat, Int.reduceLE, Int.reduceLT, Nat.reduceAdd, Nat.reduceLeDiff, intBin, strBin, unD, extractD, lit1, lit2, lit3, keptD, boxR, D.one, D.pub1, D.cells, splice, cutOwn]
            refine PCall.use (refRank_p (allR l) q2 w hlen hF τ3 hRG.at) ?_
            rintro d2 τ4 ⟨hτ4, hd2⟩
            subst hτ4
            rw [ea] at hd2
            rcases hd2 with ⟨_, rfl⟩ | ⟨h, _⟩
            · simp -dsimp only [↓preB, postB, genB, ↓reduceIte, Nat.reduceEqDiff, Int.reduceToNat, Int.reduceLE, Int.reduceLT, Nat.reduceAdd, Nat.reduceLeDiff, intBin, strBin, unD, extractD, lit1, lit2, lit3, keptD, boxR, D.one, D.pub1, D.cells, splice, cutOwn]
              refine PCall.use (Sure_p w q (mfL l) (cfL l) hnc hb5 σ τ4 hPG2 hst) ?_
              rintro d3 τ5 ⟨hτ5, hd3⟩
              subst hτ5
              rcases hd3 with ⟨_, rfl⟩ | ⟨h, _⟩ | ⟨h, _⟩
              · simp -dsimp only [↓preB, postB, genB, ↓reduceIte, Nat.reduceEqDiff, Int.reduceToNat, Int.reduceLE, Int.reduceLT, Nat.reduceAdd, Nat.reduceLeDiff, intBin, strBin, unD, extractD, lit1, lit2, lit3, keptD, boxR, D.one, D.pub1, D.cells, splice, cutOwn]
                refine PCall.use (refSure_p (allR l) q2 w hlen hF τ5 hRG.at) ?_
                rintro d4 τ6 ⟨hτ6, hd4⟩
                subst hτ6
                rw [ea] at hd4
                rcases hd4 with ⟨_, rfl⟩ | ⟨h, _⟩
                · simp -dsimp only [beq_self_eq_true, gate, uTT, uTF, uFT, uFF, ↓preB, postB, genB, ↓reduceIte, Nat.reduceEqDiff, Int.reduceToNat, Int.reduceLE, Int.reduceLT, Nat.reduceAdd, Nat.reduceLeDiff, intBin, strBin, unD, extractD, lit1, lit2, lit3, keptD, boxR, D.one, D.pub1, D.cells, splice, cutOwn]
                  refine Fn.useP (Same_c [] []) rfl ?_
                  have es : eqW [] [] = true := rfl
                  simp -dsimp only [es, beq_self_eq_true, gate, uTT, uTF, uFT, uFF, ↓preB, postB, genB, ↓reduceIte, Nat.reduceEqDiff, Int.reduceToNat, Int.reduceLE, Int.reduceLT, Nat.reduceAdd, Nat.reduceLeDiff, intBin, strBin, unD, extractD, lit1, lit2, lit3, keptD, boxR, D.one, D.pub1, D.cells, splice, cutOwn]
                  refine Fn.use known_c ?_
                  simp -dsimp only [↓preB, postB, genB, ↓reduceIte, Nat.reduceEqDiff, Int.reduceToNat, Int.reduceLE, Int.reduceLT, Nat.reduceAdd, Nat.reduceLeDiff, intBin, strBin, unD, extractD, lit1, lit2, lit3, keptD, boxR, D.one, D.pub1, D.cells, splice, cutOwn]
                  exact fin _ (hle.trans hle2)
                · exact absurd h c1
              · exact absurd h c1
              · exact absurd h c1
            · exact absurd h c1
          · have ea : askE (decide (allR l = [])) [w] = 4 := by rw [askE_w, if_neg (fun h => h c1), if_pos (by simpa using hz.1 c2)]
            simp -dsimp only [↓preB, postB, genB, ↓reduceIte, Nat.reduceEqDiff, Int.reduceToNat, Int.reduceLE, Int.reduceLT, Nat.reduceAdd, Nat.reduceLeDiff, intBin, strBin, unD, extractD, lit1, lit2, lit3, keptD, boxR, D.one, D.pub1, D.cells, splice, cutOwn]
            refine PCall.use (refRank_p (allR l) q2 w hlen hF τ3 hRG.at) ?_
            rintro d2 τ4 ⟨hτ4, hd2⟩
            subst hτ4
            rw [ea] at hd2
            rcases hd2 with ⟨_, rfl⟩ | ⟨h, _⟩
            · simp -dsimp only [↓preB, postB, genB, ↓reduceIte, Nat.reduceEqDiff, Int.reduceToNat, Int.reduceLE, Int.reduceLT, Nat.reduceAdd, Nat.reduceLeDiff, intBin, strBin, unD, extractD, lit1, lit2, lit3, keptD, boxR, D.one, D.pub1, D.cells, splice, cutOwn]
              refine PCall.use (Sure_p w q (mfL l) (cfL l) hnc hb5 σ τ4 hPG2 hst) ?_
              rintro d3 τ5 ⟨hτ5, hd3⟩
              subst hτ5
              rcases hd3 with ⟨h, _⟩ | ⟨_, _, rfl⟩ | ⟨_, h, _⟩
              · exact absurd c1 h
              · simp -dsimp only [↓preB, postB, genB, ↓reduceIte, Nat.reduceEqDiff, Int.reduceToNat, Int.reduceLE, Int.reduceLT, Nat.reduceAdd, Nat.reduceLeDiff, intBin, strBin, unD, extractD, lit1, lit2, lit3, keptD, boxR, D.one, D.pub1, D.cells, splice, cutOwn]
                refine PCall.use (refSure_p (allR l) q2 w hlen hF τ5 hRG.at) ?_
                rintro d4 τ6 ⟨hτ6, hd4⟩
                subst hτ6
                rw [ea] at hd4
                rcases hd4 with ⟨_, rfl⟩ | ⟨h, _⟩
                · simp -dsimp only [beq_self_eq_true, gate, uTT, uTF, uFT, uFF, ↓preB, postB, genB, ↓reduceIte, Nat.reduceEqDiff, Int.reduceToNat, Int.reduceLE, Int.reduceLT, Nat.reduceAdd, Nat.reduceLeDiff, intBin, strBin, unD, extractD, lit1, lit2, lit3, keptD, boxR, D.one, D.pub1, D.cells, splice, cutOwn]
                  refine Fn.useP (Same_c [] []) rfl ?_
                  have es : eqW [] [] = true := rfl
                  simp -dsimp only [es, beq_self_eq_true, gate, uTT, uTF, uFT, uFF, ↓preB, postB, genB, ↓reduceIte, Nat.reduceEqDiff, Int.reduceToNat, Int.reduceLE, Int.reduceLT, Nat.reduceAdd, Nat.reduceLeDiff, intBin, strBin, unD, extractD, lit1, lit2, lit3, keptD, boxR, D.one, D.pub1, D.cells, splice, cutOwn]
                  refine Fn.use known_c ?_
                  simp -dsimp only [↓preB, postB, genB, ↓reduceIte, Nat.reduceEqDiff, Int.reduceToNat, Int.reduceLE, Int.reduceLT, Nat.reduceAdd, Nat.reduceLeDiff, intBin, strBin, unD, extractD, lit1, lit2, lit3, keptD, boxR, D.one, D.pub1, D.cells, splice, cutOwn]
                  exact fin _ (hle.trans hle2)
                · cases h
              · exact absurd c2 h
            · cases h
          · have ea : askE (decide (allR l = [])) [w] = 0 := by rw [askE_w, if_neg (fun h => h c1), if_neg (by simpa using fun h => c2 (hz.2 h))]
            have hgw := badW_good c1
            simp -dsimp only [encSS, ↓preB, postB, genB, ↓reduceIte, Nat.reduceEqDiff, Int.reduceToNat, Int.reduceLE, Int.reduceLT, Nat.reduceAdd, Nat.reduceLeDiff, intBin, strBin, unD, extractD, lit1, lit2, lit3, keptD, boxR, D.one, D.pub1, D.cells, splice, cutOwn]
            refine PCall.use (refRank_p (allR l) q2 w hlen hF τ3 hRG.at) ?_
            rintro d2 τ4 ⟨hτ4, hd2⟩
            subst hτ4
            rw [ea] at hd2
            rcases hd2 with ⟨h, _⟩ | ⟨_, O, U, hD, hp, hs, rfl⟩
            · exact absurd rfl h
            · obtain rfl := (rank_ref hfine htot hgw hD hp hs).one hR
              simp -dsimp only [encSS, ↓preB, postB, genB, ↓reduceIte, Nat.reduceEqDiff, Int.reduceToNat, Int.reduceLE, Int.reduceLT, Nat.reduceAdd, Nat.reduceLeDiff, intBin, strBin, unD, extractD, lit1, lit2, lit3, keptD, boxR, D.one, D.pub1, D.cells, splice, cutOwn]
              refine PCall.use (Sure_p w q (mfL l) (cfL l) hnc hb5 σ τ4 hPG2 hst) ?_
              rintro d3 τ5 ⟨hτ5, hd3⟩
              subst hτ5
              rcases hd3 with ⟨h, _⟩ | ⟨_, h, _⟩ | ⟨_, _, L2, hR2, hl2, rfl⟩
              · exact absurd c1 h
              · exact absurd h c2
              · obtain rfl := hR2.one hR
                simp -dsimp only [↓preB, postB, genB, ↓reduceIte, Nat.reduceEqDiff, Int.reduceToNat, Int.reduceLE, Int.reduceLT, Nat.reduceAdd, Nat.reduceLeDiff, intBin, strBin, unD, extractD, lit1, lit2, lit3, keptD, boxR, D.one, D.pub1, D.cells, splice, cutOwn]
                refine PCall.use (refSure_p (allR l) q2 w hlen hF τ5 hRG.at) ?_
                rintro d4 τ6 ⟨hτ6, hd4⟩
                subst hτ6
                rw [ea] at hd4
                rcases hd4 with ⟨h, _⟩ | ⟨_, O4, U4, hD4, hp4, hs4, hl4, rfl⟩
                · exact absurd rfl h
                · obtain rfl := (rank_ref hfine htot hgw hD4 hp4 hs4).one hR2
                  have hm4 := ((hR2.mem _).1 (List.getElem_mem hl2)).1
                  have ek : keyR (allR l) w U4[0] = keyT (cfL l) w U4[0] := by rw [keyR, keyT, key_eq hfine hgw hm4]
                  have ed : (chV (fun e => tagV (allR l) e U4[0]) (fun e => cnt (allR l) e noB) w).2 = denT (cfL l) w U4[0] := by rw [denT, key_eq hfine hgw hm4]
                  rw [ek, ed]
                  have es : eqW U4 U4 = true := eqW_iff.2 rfl
                  have hsame := Same_c U4 U4
                  unfold encSS at hsame
                  simp -dsimp only [beq_self_eq_true, ba_refl, gate, uTT, uTF, uFT, uFF, ↓preB, postB, genB, ↓reduceIte, Nat.reduceEqDiff, Int.reduceToNat, Int.reduceLE, Int.reduceLT, Nat.reduceAdd, Nat.reduceLeDiff, intBin, strBin, unD, extractD, lit1, lit2, lit3, keptD, boxR, D.one, D.pub1, D.cells, splice, cutOwn]
                  refine Fn.useP hsame rfl ?_
                  simp -dsimp only [es, ba_refl, beq_self_eq_true, gate, uTT, uTF, uFT, uFF, ↓preB, postB, genB, ↓reduceIte, Nat.reduceEqDiff, Int.reduceToNat, Int.reduceLE, Int.reduceLT, Nat.reduceAdd, Nat.reduceLeDiff, intBin, strBin, unD, extractD, lit1, lit2, lit3, keptD, boxR, D.one, D.pub1, D.cells, splice, cutOwn]
                  refine Fn.use known_c ?_
                  simp -dsimp only [↓preB, postB, genB, ↓reduceIte, Nat.reduceEqDiff, Int.reduceToNat, Int.reduceLE, Int.reduceLT, Nat.reduceAdd, Nat.reduceLeDiff, intBin, strBin, unD, extractD, lit1, lit2, lit3, keptD, boxR, D.one, D.pub1, D.cells, splice, cutOwn]
                  exact fin _ (hle.trans hle2)
    · simp -dsimp only [↓preB, postB, genB, ↓reduceIte, Nat.reduceEqDiff, Int.reduceToNat, Int.reduceLE, Int.reduceLT, Nat.reduceAdd, Nat.reduceLeDiff, intBin, strBin, unD, extractD, lit1, lit2, lit3, keptD, boxR, D.one, D.pub1, D.cells, splice, cutOwn]
      refine Fn.use known_c ?_
      simp -dsimp only [↓preB, postB, genB, ↓reduceIte, Nat.reduceEqDiff, Int.reduceToNat, Int.reduceLE, Int.reduceLT, Nat.reduceAdd, Nat.reduceLeDiff, intBin, strBin, unD, extractD, lit1, lit2, lit3, keptD, boxR, D.one, D.pub1, D.cells, splice, cutOwn]
      exact Ret.is rfl
  · simp -dsimp only [gate, uTT, uTF, uFT, uFF, ↓preB, postB, genB, ↓reduceIte, Nat.reduceEqDiff, Int.reduceToNat, Int.reduceLE, Int.reduceLT, Nat.reduceAdd, Nat.reduceLeDiff, intBin, strBin, unD, extractD, lit1, lit2, lit3, keptD, boxR, D.one, D.pub1, D.cells, splice, cutOwn]
    refine Fn.use known_c ?_
    simp -dsimp only [↓preB, postB, genB, ↓reduceIte, Nat.reduceEqDiff, Int.reduceToNat, Int.reduceLE, Int.reduceLT, Nat.reduceAdd, Nat.reduceLeDiff, intBin, strBin, unD, extractD, lit1, lit2, lit3, keptD, boxR, D.one, D.pub1, D.cells, splice, cutOwn]
    exact Ret.is rfl
end Go.Proofs.Ythchlpikcpidaaa.Vs
