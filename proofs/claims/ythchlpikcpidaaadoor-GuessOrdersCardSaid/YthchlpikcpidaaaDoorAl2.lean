import Derived.Test.YthchlpikcpidaaaDoorAlP
import Derived.Test.YthchlpikcpidaaaDoorGuD1
import Derived.Test.YthchlpikcpidaaaDoorAl1
/- numbers of YthchlpikcpidaaaDoor -/
namespace Go.Proofs.YthchlpikcpidaaaDoor.Vs
set_option linter.unusedVariables false
set_option linter.unusedSimpArgs false
theorem mfL_snoc' (l : List Smp) (x : Smp) (k : ByteArray × ByteArray) : mfL (l ++ [x]) k = mfL l k + if k = keyS x then x.many else 0 := by
  rw [mfL_snoc]
  unfold addAt keyS
  by_cases h : k = (keyB x.word sp, x.tag)
  · simp only [h, if_true]
  · simp only [h, if_false]; omega
theorem mfL_cons (x : Smp) (l : List Smp) (k : ByteArray × ByteArray) : mfL (x :: l) k = (if k = keyS x then x.many else 0) + mfL l k := by
  refine snoc_ind (P := fun l => mfL (x :: l) k = (if k = keyS x then x.many else 0) + mfL l k) ?_ (fun l y ih => ?_) l
  · have := mfL_snoc' [] x k
    rw [List.nil_append] at this
    rw [this]
    show (0 : Int) + _ = _ + 0
    omega
  · show mfL ((x :: l) ++ [y]) k = _
    rw [mfL_snoc', mfL_snoc', ih]
    omega
theorem mfL_rev : ∀ (l : List Smp) (k : ByteArray × ByteArray), mfL l.reverse k = mfL l k
  | [], k => rfl
  | x :: l, k => by rw [List.reverse_cons, mfL_snoc', mfL_rev l k, mfL_cons]; omega
theorem tot_rev : ∀ l : List Smp, tot l.reverse = tot l
  | [] => rfl
  | x :: l => by rw [List.reverse_cons, tot, cnt_append, cnt_one, one_all, tot_cons]; have := tot_rev l; unfold tot at this; rw [this]; unfold tot; omega
theorem mfL_mem : ∀ {l : List Smp} {k : ByteArray × ByteArray}, mfL l k ≠ 0 → k ∈ l.map keyS
  | [], k, h => absurd rfl h
  | x :: l, k, h => by
    rw [mfL_cons] at h
    by_cases hk : k = keyS x
    · rw [hk]; exact List.mem_cons_self
    · rw [if_neg hk, Int.zero_add] at h
      exact List.mem_cons_of_mem _ (mfL_mem h)
theorem len_subA {α : Type} : ∀ {L M : List α}, L.Nodup → (∀ t ∈ L, t ∈ M) → L.length ≤ M.length
  | [], M, _, _ => Nat.zero_le _
  | a :: L, M, hn, hs => by
    obtain ⟨p, s, rfl⟩ := List.append_of_mem (hs a List.mem_cons_self)
    rw [List.nodup_cons] at hn
    have := len_subA (L := L) (M := p ++ s) hn.2 fun t ht => by
      have h1 := hs t (List.mem_cons_of_mem _ ht)
      simp only [List.mem_append, List.mem_cons] at h1 ⊢
      rcases h1 with h1 | rfl | h1
      · exact .inl h1
      · exact absurd ht hn.1
      · exact .inr h1
    simp only [List.length_append, List.length_cons] at this ⊢
    omega
theorem mfL_keys {l : List Smp} (L : List (ByteArray × ByteArray)) (hn : L.Nodup) (h : ∀ k ∈ L, mfL l k ≠ 0) : L.length ≤ l.length := by
  have := len_subA hn fun k hk => mfL_mem (h k hk)
  rwa [List.length_map] at this
theorem mfL_good {l : List Smp} (hl : ∀ x ∈ l, fineS x) (k : ByteArray × ByteArray) (h : mfL l k ≠ 0) : ∃ w, goodW w ∧ k.1 = keyB w sp := by
  obtain ⟨x, hx, rfl⟩ := List.mem_map.1 (mfL_mem h)
  exact ⟨x.word, badW_good (hl x hx).1, rfl⟩
end Go.Proofs.YthchlpikcpidaaaDoor.Vs

/- numbers of YthchlpikcpidaaaDoor -/
namespace Go.Proofs.YthchlpikcpidaaaDoor.Vs
set_option linter.unusedVariables false
set_option linter.unusedSimpArgs false
set_option maxRecDepth 100000
theorem bTT : ((true : Bool) == true) = true := rfl
theorem bTF : ((true : Bool) == false) = false := rfl
theorem bFT : ((false : Bool) == true) = false := rfl
theorem bFF : ((false : Bool) == false) = true := rfl
theorem sameS_c (S : List Smp) : Fn Zs 8 [encS S, encS S] (.bool true) := by
  refine fn_of (Z := Zs) ok8 fun σ hcl hbl => ?_
  simp -dsimp only [L8, encS, ↓preB, postB, genB, ↓reduceIte, Nat.reduceEqDiff, Int.reduceToNat, Int.reduceLE, Int.reduceLT, Nat.reduceAdd, Nat.reduceLeDiff, intBin, strBin, unD, extractD, lit1, lit2, lit3, keptD, boxR, D.one, D.pub1, D.cells, splice, cutOwn]
  intro hbig _
  have hne : ((S.length : Int) != S.length) = false := by simp
  simp -dsimp only [hne, ↓preB, postB, genB, ↓reduceIte, Nat.reduceEqDiff, Int.reduceToNat, Int.reduceLE, Int.reduceLT, Nat.reduceAdd, Nat.reduceLeDiff, intBin, strBin, unD, extractD, lit1, lit2, lit3, keptD, boxR, D.one, D.pub1, D.cells, splice, cutOwn]
  refine pwp_loopG (fun k env s => k ≤ S.length ∧ s = σ ∧ env 5 = .int .i64 (k:Nat) ∧ env 0 = encS S ∧ env 1 = encS S) (fun k => S.length - k) 0 ?_ ?_
  · simp only [upd_apply, envOf_apply, Nat.reduceEqDiff, if_true, if_false]
    exact ⟨Nat.zero_le _, trivial, rfl, rfl, rfl⟩
  · rintro k env s ⟨hk, rfl, h5, h0, h1⟩
    rcases Nat.lt_or_ge k S.length with hlt | hge
    · have hd := cellsS_at hlt
      have hposc := cellsS_pos hlt
      have he : eqW S[k].word S[k].word = true := eqW_iff.2 rfl
      simp -dsimp only [h5, h0, h1, encS, hlt, hd, hposc, hbig, ↓preB, postB, genB, ↓reduceIte, Nat.reduceEqDiff, Int.reduceToNat, Int.reduceLE, Int.reduceLT, Nat.reduceAdd, Nat.reduceLeDiff, intBin, strBin, unD, extractD, lit1, lit2, lit3, keptD, boxR, D.one, D.pub1, D.cells, splice, cutOwn]
      have hnb : (!(true : Bool)) = false := rfl
      have ht0 : (S[k].tag == S[k].tag) = true := ba_refl _
      have hm0 : (S[k].many != S[k].many) = false := by simp
      refine draw_s ?_
      simp -dsimp only [h5, h0, h1, encS, encSS, hlt, hd, hposc, hbig, ↓preB, postB, genB, ↓reduceIte, Nat.reduceEqDiff, Int.reduceToNat, Int.reduceLE, Int.reduceLT, Nat.reduceAdd, Nat.reduceLeDiff, intBin, strBin, unD, extractD, lit1, lit2, lit3, keptD, boxR, D.one, D.pub1, D.cells, splice, cutOwn]
      refine Fn.useS (Same_c S[k].word S[k].word) ?_
      simp -dsimp only [h5, h0, h1, encS, encSS, hlt, hd, hposc, hbig, he, ht0, hm0, hnb, gate, decide_true, decide_false, Bool.not_true, Bool.not_false, bTT, bTF, bFT, bFF, ↓preB, postB, genB, ↓reduceIte, Nat.reduceEqDiff, Int.reduceToNat, Int.reduceLE, Int.reduceLT, Nat.reduceAdd, Nat.reduceLeDiff, intBin, strBin, unD, extractD, lit1, lit2, lit3, keptD, boxR, D.one, D.pub1, D.cells, splice, cutOwn]
      exact ⟨k + 1, ⟨by omega, wrap64_succ (by omega)⟩, by omega⟩
    · have hkl : k = S.length := by omega
      subst hkl
      simp -dsimp only [h5, h0, h1, encS, Nat.lt_irrefl, hbig, ↓preB, postB, genB, ↓reduceIte, Nat.reduceEqDiff, Int.reduceToNat, Int.reduceLE, Int.reduceLT, Nat.reduceAdd, Nat.reduceLeDiff, intBin, strBin, unD, extractD, lit1, lit2, lit3, keptD, boxR, D.one, D.pub1, D.cells, splice, cutOwn]
      exact Ret.is rfl
theorem PG.le {σ0 σ : Heap} {mf : ByteArray × ByteArray → Int} {cf : CF} {q : Nat} (h : PG σ0 mf cf q σ) : HLe σ0 σ := by
  obtain ⟨_, _, _, _, _, hP, _⟩ := h
  exact hP.le
theorem badS_one {y : Smp} (h : fineS y) (hm : y.many ≤ 1000) : badS [y] = 0 := by
  obtain ⟨h1, h2, h3⟩ := h
  have e1 : badLL ([y].map (·.word)) = 0 := by
    show badLL [y.word] = 0
    rw [badLL_one]; exact h1
  have e2 : ([y].any oddS) = false := by
    simp only [List.any_cons, List.any_nil, Bool.or_false, oddS, h2, Bool.not_true, Bool.false_or, decide_eq_false_iff_not]
    omega
  rw [badS, if_neg (fun h => h e1), e2, if_neg (by simp)]
  simp only [sumE]
  rw [if_neg (by omega), if_neg (by omega)]
theorem orders_c (l : List Smp) (x : Smp) : Fn Zs 3 [encS l, aggS x] (.bool true) := by
  refine fn_of (Z := Zs) ok3 fun σ hcl hbl => ?_
  simp -dsimp only [L3, aggS, ↓preB, postB, genB, ↓reduceIte, Nat.reduceEqDiff, Int.reduceToNat, Int.reduceLE, Int.reduceLT, Nat.reduceAdd, Nat.reduceLeDiff, intBin, strBin, unD, extractD, lit1, lit2, lit3, keptD, boxR, D.one, D.pub1, D.cells, splice, cutOwn]
  have hbx : (σ.new (.cells 25 [encSS x.word, .str x.tag, .int .i64 x.many])).get σ.next = some (.cells 25 [encSS x.word, .str x.tag, .int .i64 x.many]) := Heap.new_same _ _
  have hle0 : HLe σ (σ.new (.cells 25 [encSS x.word, .str x.tag, .int .i64 x.many])) := HLe.new_of hcl.lt _
  have hltb := new_ltA hcl.lt (.cells 25 [encSS x.word, .str x.tag, .int .i64 x.many])
  simp only [encSS] at hbx hle0 hltb
  simp -dsimp only [encSS, ↓preB, postB, genB, ↓reduceIte, Nat.reduceEqDiff, Int.reduceToNat, Int.reduceLE, Int.reduceLT, Nat.reduceAdd, Nat.reduceLeDiff, intBin, strBin, unD, extractD, lit1, lit2, lit3, keptD, boxR, D.one, D.pub1, D.cells, splice, cutOwn]
  generalize σ.new (.cells 25 [.sl .no x.word.length (x.word.map .str), .str x.tag, .int .i64 x.many]) = σb at *
  refine Says.use (over_c l) ?_
  rintro _ ⟨b, rfl⟩
  cases b
  case true =>
    simp -dsimp only [↓preB, postB, genB, ↓reduceIte, Nat.reduceEqDiff, Int.reduceToNat, Int.reduceLE, Int.reduceLT, Nat.reduceAdd, Nat.reduceLeDiff, intBin, strBin, unD, extractD, lit1, lit2, lit3, keptD, boxR, D.one, D.pub1, D.cells, splice, cutOwn]
    refine Fn.use known_c ?_
    simp -dsimp only [↓preB, postB, genB, ↓reduceIte, Nat.reduceEqDiff, Int.reduceToNat, Int.reduceLE, Int.reduceLT, Nat.reduceAdd, Nat.reduceLeDiff, intBin, strBin, unD, extractD, lit1, lit2, lit3, keptD, boxR, D.one, D.pub1, D.cells, splice, cutOwn]
    exact Ret.less hle0 hcl (.refl _) (.bool _)
  simp -dsimp only [hbx, encSS, bs22A, ↓preB, postB, genB, ↓reduceIte, Nat.reduceEqDiff, Int.reduceToNat, Int.reduceLE, Int.reduceLT, Nat.reduceAdd, Nat.reduceLeDiff, intBin, strBin, unD, extractD, lit1, lit2, lit3, keptD, boxR, D.one, D.pub1, D.cells, splice, cutOwn]
  refine Says.useP (over_c [x]) rfl ?_
  rintro _ ⟨b, rfl⟩
  cases b
  case true =>
    simp -dsimp only [↓preB, postB, genB, ↓reduceIte, Nat.reduceEqDiff, Int.reduceToNat, Int.reduceLE, Int.reduceLT, Nat.reduceAdd, Nat.reduceLeDiff, intBin, strBin, unD, extractD, lit1, lit2, lit3, keptD, boxR, D.one, D.pub1, D.cells, splice, cutOwn]
    refine Fn.use known_c ?_
    simp -dsimp only [↓preB, postB, genB, ↓reduceIte, Nat.reduceEqDiff, Int.reduceToNat, Int.reduceLE, Int.reduceLT, Nat.reduceAdd, Nat.reduceLeDiff, intBin, strBin, unD, extractD, lit1, lit2, lit3, keptD, boxR, D.one, D.pub1, D.cells, splice, cutOwn]
    exact Ret.less hle0 hcl (.refl _) (.bool _)
  simp -dsimp only [↓preB, postB, genB, ↓reduceIte, Nat.reduceEqDiff, Int.reduceToNat, Int.reduceLE, Int.reduceLT, Nat.reduceAdd, Nat.reduceLeDiff, intBin, strBin, unD, extractD, lit1, lit2, lit3, keptD, boxR, D.one, D.pub1, D.cells, splice, cutOwn]
  refine PCall.use (new_c l σb).full ?_
  rintro d τ1 ⟨hn1, hc1, hle1, ⟨h0, rfl⟩ | ⟨h0, q, rfl, hPG⟩⟩
  · have h0' : (newE l != 0) = true := by simpa using h0
    simp -dsimp only [h0', ↓preB, postB, genB, ↓reduceIte, Nat.reduceEqDiff, Int.reduceToNat, Int.reduceLE, Int.reduceLT, Nat.reduceAdd, Nat.reduceLeDiff, intBin, strBin, unD, extractD, lit1, lit2, lit3, keptD, boxR, D.one, D.pub1, D.cells, splice, cutOwn]
    refine Fn.use known_c ?_
    simp -dsimp only [↓preB, postB, genB, ↓reduceIte, Nat.reduceEqDiff, Int.reduceToNat, Int.reduceLE, Int.reduceLT, Nat.reduceAdd, Nat.reduceLeDiff, intBin, strBin, unD, extractD, lit1, lit2, lit3, keptD, boxR, D.one, D.pub1, D.cells, splice, cutOwn]
    exact Ret.less (hle0.trans hle1) hcl (.refl _) (.bool _)
  have h00 : ((0 : Int) != 0) = false := rfl
  simp -dsimp only [h00, ↓preB, postB, genB, ↓reduceIte, Nat.reduceEqDiff, Int.reduceToNat, Int.reduceLE, Int.reduceLT, Nat.reduceAdd, Nat.reduceLeDiff, intBin, strBin, unD, extractD, lit1, lit2, lit3, keptD, boxR, D.one, D.pub1, D.cells, splice, cutOwn]
  refine PCall.useP (new_c [] τ1).full rfl ?_
  rintro d τ2 ⟨hn2, hc2, hle2, ⟨h1, _⟩ | ⟨h1, q2, rfl, hPH⟩⟩
  · exact absurd rfl h1
  obtain ⟨h200, hbs⟩ := newE_fine h0
  obtain ⟨hfine, htot⟩ := badS_ok hbs
  have hpos1 : ∀ x ∈ l, 1 ≤ x.many := fun x hx => (hfine x hx).2.2
  have hrl : l.reverse.length = l.length := List.length_reverse
  have hfr : ∀ x ∈ l.reverse, fineS x := fun x hx => hfine x (List.mem_reverse.1 hx)
  have htr : tot l.reverse ≤ 1000 := by rw [tot_rev]; exact htot
  simp -dsimp only [h00, encS, ↓preB, postB, genB, ↓reduceIte, Nat.reduceEqDiff, Int.reduceToNat, Int.reduceLE, Int.reduceLT, Nat.reduceAdd, Nat.reduceLeDiff, intBin, strBin, unD, extractD, lit1, lit2, lit3, keptD, boxR, D.one, D.pub1, D.cells, splice, cutOwn]
  intro hbig
  have hw0 : IntKind.i64.wrap ((l.length : Int) - 1) = (l.length : Int) - 1 - (0 : Nat) := by rw [wrap64_in (by omega) (by omega)]; omega
  refine pwp_loopG (fun k env s => k ≤ l.length ∧ PG τ1 (mfL (l.reverse.take k)) (cfL (l.reverse.take k)) q2 s ∧ env 9 = .int .i64 ((l.length : Int) - 1 - (k : Nat)) ∧ env 7 = .ptr q2 0 ∧ env 0 = encS l ∧ env 5 = .ptr q 0 ∧ env 3 = .ptr σ.next 0) (fun k => l.length - k) 0 ?_ ?_
  · simp only [upd_apply, envOf_apply, Nat.reduceEqDiff, if_true, if_false]
    exact ⟨Nat.zero_le _, hPH, by rw [hw0], by first | rfl | trivial, by first | rfl | trivial, by first | rfl | trivial, by first | rfl | trivial⟩
  · rintro k env s ⟨hk, hPk, h9, h7, h0e, h5, h3⟩
    have hPk' := hPk
    obtain ⟨r1, r2, M, E, A, hPx, hM, hA⟩ := hPk'
    have hle2s : HLe τ1 s := hPx.le
    rcases Nat.lt_or_ge k l.length with hlt | hge
    · have hj : l.length - 1 - k < l.length := by omega
      have h9' : env 9 = .int .i64 ((l.length - 1 - k : Nat) : Int) := by rw [h9]; congr 1; omega
      have hd := cellsS_at hj
      have hposc := cellsS_pos hj
      have hc0 : (0 : Int) ≤ ((l.length - 1 - k : Nat) : Int) := by omega
      have hjl : ((l.length - 1 - k : Nat) : Int) < l.length := by omega
      simp -dsimp only [h9', h7, h0e, h5, h3, encS, hd, hposc, hbig, hc0, hj, hjl, ↓preB, postB, genB, ↓reduceIte, Nat.reduceEqDiff, Int.reduceToNat, Int.reduceLE, Int.reduceLT, Nat.reduceAdd, Nat.reduceLeDiff, intBin, strBin, unD, extractD, lit1, lit2, lit3, keptD, boxR, D.one, D.pub1, D.cells, splice, cutOwn]
      have hkr : k < l.reverse.length := by omega
      have hy : l[l.length - 1 - k] = l.reverse[k] := by rw [List.getElem_reverse]
      have hyf : fineS l.reverse[k] := hfr _ (List.getElem_mem hkr)
      have hFr : Fine l.reverse := ⟨fun x hx => (hfr x hx).2.2, htr⟩
      have hFk : Fine (l.reverse.take k) := hFr.take k
      have hFk1 := (hFr.take (k + 1)).2
      rw [tot_take hkr] at hFk1
      have hfk : ∀ x ∈ l.reverse.take k, fineS x := fun x hx => hfr x (List.mem_of_mem_take hx)
      have htk0 : 0 ≤ tot (l.reverse.take k) := cnt_nonneg _ _ fun x hx => hFk.1 x hx
      have hsn := take_snoc hkr
      have hct := cf_tot hfk
      have hni := cfL_nice hfk hFk.2
      rw [hy]
      generalize l.reverse[k] = y at *
      have hyb := badS_one hyf (by omega)
      refine PCall.use (Add_p y k (mfL (l.reverse.take k)) (cfL (l.reverse.take k)) q2 (fun kk => by have := mfL_bound hfk kk; have := hFk.2; omega) (fun e t => by have := hni e t; omega) (fun L hn hL => by have := mfL_keys L hn hL; rw [List.length_take] at this; omega) τ1 s hc1.lt hPk).full ?_
      rintro _ τ ⟨hn, hct2, e, rfl, ⟨he, _, hbad⟩ | ⟨rfl, _, _, _, _, hτ⟩⟩
      · exfalso
        rcases hbad with hb | hb | hb
        · exact hb hyb
        · rw [hct] at hb; omega
        · omega
      · simp -dsimp only [h9', h7, h0e, h5, h3, h00, encS, ↓preB, postB, genB, ↓reduceIte, Nat.reduceEqDiff, Int.reduceToNat, Int.reduceLE, Int.reduceLT, Nat.reduceAdd, Nat.reduceLeDiff, intBin, strBin, unD, extractD, lit1, lit2, lit3, keptD, boxR, D.one, D.pub1, D.cells, splice, cutOwn]
        refine ⟨k + 1, ⟨by omega, ?_, ?_⟩, by omega⟩
        · rw [hsn, mfL_snoc, cfL_snoc]; exact hτ
        · rw [wrap64_in (by omega) (by omega)]; omega
    · have hkl : k = l.length := by omega
      subst hkl
      rw [List.take_of_length_le (by omega)] at hPk
      have h9' : env 9 = .int .i64 (-1) := by rw [h9]; congr 1; omega
      have hc0 : ¬ (0 : Int) ≤ -1 := by omega
      simp -dsimp only [h9', h7, h0e, h5, h3, encS, hbig, hc0, ↓preB, postB, genB, ↓reduceIte, Nat.reduceEqDiff, Int.reduceToNat, Int.reduceLE, Int.reduceLT, Nat.reduceAdd, Nat.reduceLeDiff, intBin, strBin, unD, extractD, lit1, lit2, lit3, keptD, boxR, D.one, D.pub1, D.cells, splice, cutOwn]
      have hPGs := hPG.more hle2s
      have hbxs := (hle1.trans hle2s).get _ _ hbx
      have hles := hle0.trans (hle1.trans hle2s)
      refine PCall.use (All_p q (mfL l) (cfL l) (mfL_good hfine) (fun L hn hL => by have := mfL_keys L hn hL; omega) σb s hPGs) ?_
      rintro _ _ ⟨rfl, S1, hS1, rfl⟩
      simp -dsimp only [h9', h7, h0e, h5, h3, ↓preB, postB, genB, ↓reduceIte, Nat.reduceEqDiff, Int.reduceToNat, Int.reduceLE, Int.reduceLT, Nat.reduceAdd, Nat.reduceLeDiff, intBin, strBin, unD, extractD, lit1, lit2, lit3, keptD, boxR, D.one, D.pub1, D.cells, splice, cutOwn]
      rename_i s
      refine PCall.use (All_p q2 (mfL l.reverse) (cfL l.reverse) (mfL_good hfr) (fun L hn hL => by have := mfL_keys L hn hL; omega) τ1 s hPk) ?_
      rintro _ _ ⟨rfl, S2, hS2, rfl⟩
      have hS12 := (hS2.congr fun k => mfL_rev l k).one hS1
      subst hS12
      simp -dsimp only [h9', h7, h0e, h5, h3, ↓preB, postB, genB, ↓reduceIte, Nat.reduceEqDiff, Int.reduceToNat, Int.reduceLE, Int.reduceLT, Nat.reduceAdd, Nat.reduceLeDiff, intBin, strBin, unD, extractD, lit1, lit2, lit3, keptD, boxR, D.one, D.pub1, D.cells, splice, cutOwn]
      refine Fn.use (sameS_c S2) ?_
      simp -dsimp only [h9', h7, h0e, h5, h3, ↓preB, postB, genB, ↓reduceIte, Nat.reduceEqDiff, Int.reduceToNat, Int.reduceLE, Int.reduceLT, Nat.reduceAdd, Nat.reduceLeDiff, intBin, strBin, unD, extractD, lit1, lit2, lit3, keptD, boxR, D.one, D.pub1, D.cells, splice, cutOwn]
      rename_i s
      refine PCall.use (All_p q (mfL l) (cfL l) (mfL_good hfine) (fun L hn hL => by have := mfL_keys L hn hL; omega) σb s hPGs) ?_
      rintro _ _ ⟨rfl, S3, hS3, rfl⟩
      have hS13 := hS3.one hS1
      subst hS13
      have hni := cfL_nice hfine htot
      have hct := cf_tot hfine
      simp -dsimp only [h9', h7, h0e, h5, h3, hbxs, List.length_cons, List.length_nil, List.take_succ_cons, List.take_zero, ↓preB, postB, genB, ↓reduceIte, Nat.reduceEqDiff, Int.reduceToNat, Int.reduceLE, Int.reduceLT, Nat.reduceAdd, Nat.reduceLeDiff, intBin, strBin, unD, extractD, lit1, lit2, lit3, keptD, boxR, D.one, D.pub1, D.cells, splice, cutOwn]
      refine PCall.use (Add_p x 200 (mfL l) (cfL l) q (fun kk => by have := mfL_bound hfine kk; omega) (fun e t => by have := hni e t; omega) (fun L hn hL => by have := mfL_keys L hn hL; omega) σb _ hltb hPGs).full ?_
      rintro _ τa ⟨hna, hca, ea, rfl, ⟨hea, hPa, _⟩ | ⟨rfl, hxb, hxf, hxm, hxt, hPa⟩⟩
      · have hea' : (ea == 0) = false := by simpa using hea
        simp -dsimp only [h9', h7, h0e, h5, h3, hea', ↓preB, postB, genB, ↓reduceIte, Nat.reduceEqDiff, Int.reduceToNat, Int.reduceLE, Int.reduceLT, Nat.reduceAdd, Nat.reduceLeDiff, intBin, strBin, unD, extractD, lit1, lit2, lit3, keptD, boxR, D.one, D.pub1, D.cells, splice, cutOwn]
        refine PCall.use (All_p q (mfL l) (cfL l) (mfL_good hfine) (fun L hn hL => by have := mfL_keys L hn hL; omega) σb _ hPa) ?_
        rintro _ _ ⟨rfl, S4, hS4, rfl⟩
        have hS14 := hS4.one hS1
        subst hS14
        simp -dsimp only [h9', h7, h0e, h5, h3, ↓preB, postB, genB, ↓reduceIte, Nat.reduceEqDiff, Int.reduceToNat, Int.reduceLE, Int.reduceLT, Nat.reduceAdd, Nat.reduceLeDiff, intBin, strBin, unD, extractD, lit1, lit2, lit3, keptD, boxR, D.one, D.pub1, D.cells, splice, cutOwn]
        refine Fn.use (sameS_c S4) ?_
        simp -dsimp only [h9', h7, h0e, h5, h3, ↓preB, postB, genB, ↓reduceIte, Nat.reduceEqDiff, Int.reduceToNat, Int.reduceLE, Int.reduceLT, Nat.reduceAdd, Nat.reduceLeDiff, intBin, strBin, unD, extractD, lit1, lit2, lit3, keptD, boxR, D.one, D.pub1, D.cells, splice, cutOwn]
        refine Fn.use known_c ?_
        simp -dsimp only [↓preB, postB, genB, ↓reduceIte, Nat.reduceEqDiff, Int.reduceToNat, Int.reduceLE, Int.reduceLT, Nat.reduceAdd, Nat.reduceLeDiff, intBin, strBin, unD, extractD, lit1, lit2, lit3, keptD, boxR, D.one, D.pub1, D.cells, splice, cutOwn]
        exact Ret.less (hle0.trans hPa.le) hcl (.refl _) (.bool _)
      · have h0t : ((0 : Int) == 0) = true := rfl
        have hbxa := hPa.le.get _ _ hbx
        rw [← mfL_snoc, ← cfL_snoc] at hPa
        have hfx2 : ∀ y ∈ l ++ [x], fineS y := fun y hy => by
          rcases List.mem_append.1 hy with h | h
          · exact hfine y h
          · rw [List.mem_singleton.1 h]; exact hxf
        have ht2 : tot (l ++ [x]) ≤ 1000 := by
          rw [tot, cnt_append, cnt_one, one_all]
          rw [hct] at hxt; exact hxt
        have hni2 := cfL_nice hfx2 ht2
        simp -dsimp only [h9', h7, h0e, h5, h3, h0t, hbxa, List.length_cons, List.length_nil, List.take_succ_cons, List.take_zero, gate, decide_true, decide_false, Bool.not_true, Bool.not_false, bTT, bTF, bFT, bFF, ↓preB, postB, genB, ↓reduceIte, Nat.reduceEqDiff, Int.reduceToNat, Int.reduceLE, Int.reduceLT, Nat.reduceAdd, Nat.reduceLeDiff, intBin, strBin, unD, extractD, lit1, lit2, lit3, keptD, boxR, D.one, D.pub1, D.cells, splice, cutOwn]
        refine PCall.use (Drop_p x (mfL (l ++ [x])) (cfL (l ++ [x])) q (fun kk => by have := mfL_bound hfx2 kk; omega) (fun e t => by have := hni2 e t; omega) σb _ hltb hPa).full ?_
        have hmx : mfL (l ++ [x]) (keyB x.word sp, x.tag) = mfL l (keyB x.word sp, x.tag) + x.many := by
          have h2 : (keyB x.word sp, x.tag) = keyS x := rfl
          rw [mfL_snoc', h2, if_pos rfl]
        have hml := mfL_bound hfine (keyB x.word sp, x.tag)
        rintro _ τd ⟨hnd, hcd, ed, rfl, ⟨hed, _, hbad⟩ | ⟨rfl, _, _, hPd⟩⟩
        · exfalso
          rcases hbad with hb | hb
          · exact hb hxb
          · omega
        have hmd : ∀ k, addAt (mfL (l ++ [x])) (keyB x.word sp, x.tag) (-x.many) k = mfL l k := fun k => by
          unfold addAt
          rw [mfL_snoc']
          by_cases h : k = (keyB x.word sp, x.tag)
          · have h2 : k = keyS x := h
            rw [if_pos h, if_pos h2]; omega
          · have h2 : ¬ k = keyS x := h
            rw [if_neg h]
            simp only [h2, if_false]; omega
        have hmd' : addAt (mfL (l ++ [x])) (keyB x.word sp, x.tag) (-x.many) = mfL l := funext hmd
        rw [hmd'] at hPd
        simp -dsimp only [h9', h7, h0e, h5, h3, h00, gate, decide_true, decide_false, Bool.not_true, Bool.not_false, bTT, bTF, bFT, bFF, ↓preB, postB, genB, ↓reduceIte, Nat.reduceEqDiff, Int.reduceToNat, Int.reduceLE, Int.reduceLT, Nat.reduceAdd, Nat.reduceLeDiff, intBin, strBin, unD, extractD, lit1, lit2, lit3, keptD, boxR, D.one, D.pub1, D.cells, splice, cutOwn]
        refine PCall.use (All_p q (mfL l) _ (mfL_good hfine) (fun L hn hL => by have := mfL_keys L hn hL; omega) σb _ hPd) ?_
        rintro _ _ ⟨rfl, S4, hS4, rfl⟩
        have hS14 := hS4.one hS1
        subst hS14
        simp -dsimp only [h9', h7, h0e, h5, h3, ↓preB, postB, genB, ↓reduceIte, Nat.reduceEqDiff, Int.reduceToNat, Int.reduceLE, Int.reduceLT, Nat.reduceAdd, Nat.reduceLeDiff, intBin, strBin, unD, extractD, lit1, lit2, lit3, keptD, boxR, D.one, D.pub1, D.cells, splice, cutOwn]
        refine Fn.use (sameS_c S4) ?_
        simp -dsimp only [h9', h7, h0e, h5, h3, ↓preB, postB, genB, ↓reduceIte, Nat.reduceEqDiff, Int.reduceToNat, Int.reduceLE, Int.reduceLT, Nat.reduceAdd, Nat.reduceLeDiff, intBin, strBin, unD, extractD, lit1, lit2, lit3, keptD, boxR, D.one, D.pub1, D.cells, splice, cutOwn]
        refine Fn.use known_c ?_
        simp -dsimp only [↓preB, postB, genB, ↓reduceIte, Nat.reduceEqDiff, Int.reduceToNat, Int.reduceLE, Int.reduceLT, Nat.reduceAdd, Nat.reduceLeDiff, intBin, strBin, unD, extractD, lit1, lit2, lit3, keptD, boxR, D.one, D.pub1, D.cells, splice, cutOwn]
        exact Ret.less (hle0.trans hPd.le) hcl (.refl _) (.bool _)
end Go.Proofs.YthchlpikcpidaaaDoor.Vs
