/- numbers of YtldlcejlfaogbaaDoor -/
/- Whether a table makes the same of words one behind the other. -/
import Derived.Test.YtldlcejlfaogbaaDoorJoF2
namespace Go.Proofs.YtldlcejlfaogbaaDoor.Vs
set_option linter.unusedVariables false
set_option linter.unusedSimpArgs false
set_option maxRecDepth 20000

theorem shiftF_le {t : List Sh} (h1 : ∀ r ∈ t, r.From ≠ []) (h2 : ∀ r ∈ t, r.To.length ≤ 60) : ∀ (n : Nat) (w : Wd), (shiftF t n w).1.length ≤ 60 * w.length
  | 0, w => by simp [shiftF]
  | n + 1, w => by
    by_cases hw : w.length = 0
    · simp [shiftF, hw]
    · have hw' : w ≠ [] := fun e => hw (by rw [e]; rfl)
      obtain ⟨hs1, hs2⟩ := stepN_pos h1 hw'
      have hst := stepTo_le (t := t) (w := w) h2
      have ih := shiftF_le h1 h2 n (w.drop (stepN t w))
      rw [List.length_drop] at ih
      simp only [shiftF, hw, if_false, List.length_append]
      omega
theorem shiftW_le {t : List Sh} (h1 : ∀ r ∈ t, r.From ≠ []) (h2 : ∀ r ∈ t, r.To.length ≤ 60) (w : Wd) : (shiftW t w).1.length ≤ 60 * w.length := shiftF_le h1 h2 _ w
theorem fedW_le {t : List Sh} (h1 : ∀ r ∈ t, r.From ≠ []) (h2 : ∀ r ∈ t, r.To.length ≤ 60) (w : Wd) : (fedW t w).1.length ≤ 60 * w.length := by
  have key : ∀ (n : Nat) (w : Wd), w.length ≤ n → (fedW t w).1.length ≤ 60 * w.length := fun n => by
    induction n with
    | zero =>
      intro w hw
      have : w = [] := List.eq_nil_of_length_eq_zero (by omega)
      subst this
      simp [fedW, fedF]
    | succ n ih =>
      intro w hw
      by_cases hc : w.length = 0 ∨ waitsW t w = true
      · rw [fedW_stop hc]; simp
      · have hw' : w ≠ [] := fun e => hc (.inl (by rw [e]; rfl))
        obtain ⟨hs1, hs2⟩ := stepN_pos h1 hw'
        have hst := stepTo_le (t := t) (w := w) h2
        have ih := ih (w.drop (stepN t w)) (by rw [List.length_drop]; omega)
        rw [fedW_go h1 hc, List.length_append]
        rw [List.length_drop] at ih
        omega
  exact key _ w (Nat.le_refl _)
theorem rest_len {t : List Sh} (ht : ∀ r ∈ t, r.From.length ≤ 60) {w : Wd} (h : w.length = 0 ∨ waitsW t w = true) : w.length ≤ 59 := by
  rcases h with h | h
  · omega
  · obtain ⟨r, hr, hw⟩ := List.any_eq_true.1 h
    simp only [waitsR, Bool.and_eq_true, decide_eq_true_eq] at hw
    have := ht r hr
    omega
/-- The symbols of a word alone. -/
def goodL (w : Wd) : Prop := (∀ s ∈ w, s.size ≤ 16) ∧ ∀ s ∈ w, goodS s
theorem goodL.app {a b : Wd} (h : goodL a) (k : goodL b) : goodL (a ++ b) := ⟨fun s hs => (List.mem_append.1 hs).elim (h.1 s) (k.1 s), fun s hs => (List.mem_append.1 hs).elim (h.2 s) (k.2 s)⟩
theorem goodW.l {w : Wd} (h : goodW w) : goodL w := ⟨h.2.1, h.2.2⟩
theorem nextJ_good {t : List Sh} (h1 : ∀ r ∈ t, r.From ≠ []) (h60 : ∀ r ∈ t, r.From.length ≤ 60) {left w : Wd} (hl : goodW left) (hw : goodW w) : goodW (nextJ t left w) := by
  obtain ⟨h, k, e⟩ := fedW_left h1 _ (left ++ w) (Nat.le_refl _)
  have hg := hl.l.app hw.l
  refine ⟨by have := rest_len h60 h; unfold nextJ; omega, fun s hs => ?_, fun s hs => ?_⟩
  · unfold nextJ at hs; rw [e] at hs; exact hg.1 s (List.mem_of_mem_drop hs)
  · unfold nextJ at hs; rw [e] at hs; exact hg.2 s (List.mem_of_mem_drop hs)
/-! ### what is seen -/
theorem ba_dec (a b : ByteArray) : (a == b) = decide (a = b) := by
  cases h : (a == b) with
  | true => rw [ba_eq h]; simp
  | false =>
    symm
    rw [decide_eq_false_iff_not]
    rintro rfl
    rw [ba_refl] at h
    cases h
theorem keyStr : KeyOf Zs 9 D.str := by
  constructor
  · intro k; simp [keyFits, tz9, plainKeyT]
  · intro a b
    simp only [keyEq, tz9, plainKeyT, eqS, if_true, ba_dec]
def seenM (todo : List Wd) : List (ByteArray × Bool) := todo.map fun w => (keyB w sp, true)
theorem seenM_keys (todo : List Wd) : (seenM todo).map Prod.fst = todo.map fun w => keyB w sp := by simp [seenM]
theorem seenM_out {todo : List Wd} (hg : ∀ w ∈ todo, goodW w) {n : Wd} (hn : goodW n) (hm : n ∉ todo) : lkp (seenM todo) (keyB n sp) = none := by
  refine lkp_none.2 ?_
  rw [seenM_keys]
  intro h
  obtain ⟨w, hw, he⟩ := List.mem_map.1 h
  exact hm (keyB_inj (hg w hw) hn he ▸ hw)
theorem seenM_in {todo : List Wd} {n : Wd} (hm : n ∈ todo) : lkp (seenM todo) (keyB n sp) = some true := by
  cases h : lkp (seenM todo) (keyB n sp) with
  | none =>
    refine absurd (lkp_none.1 h) ?_
    rw [seenM_keys]
    exact fun hc => hc (List.mem_map.2 ⟨n, hm, rfl⟩)
  | some v =>
    have := lkp_mem h
    obtain ⟨w, hw, he⟩ := List.mem_map.1 this
    rw [← (Prod.mk.inj he).2]
theorem seenM_add {todo : List Wd} (hg : ∀ w ∈ todo, goodW w) {n : Wd} (hn : goodW n) (hm : n ∉ todo) : insA (seenM todo) (keyB n sp) true = seenM (todo ++ [n]) := by
  have h := seenM_out hg hn hm
  cases hf : findA (seenM todo) (keyB n sp) 0 with
  | none => rw [(findA_none hf).2]; simp [seenM]
  | some q =>
    obtain ⟨i, v⟩ := q
    obtain ⟨_, _, h3, _⟩ := findA_some hf
    rw [h] at h3; cases h3
/-- The heap of the search: the map of what is seen, and the texts of what there is to do. -/
def JoHeap (σ : Heap) (todo : List Wd) (d : D) (s : Heap) : Prop :=
  ∃ es clk, MapIs D.str D.bool (seenM todo) es clk ∧ Acc 9 1 (σ.new (.map es clk)) todo.length (todo.map fun w => .str (keyB w sp)) d s
theorem JoHeap.le {σ : Heap} (hc : Closed σ) {todo : List Wd} {d : D} {s : Heap} (h : JoHeap σ todo d s) : HLe σ s := by
  obtain ⟨es, clk, _, hA⟩ := h
  exact (HLe.self_new _ hc).trans hA.le
theorem JoHeap.look {σ : Heap} {todo : List Wd} {d : D} {s : Heap} (h : JoHeap σ todo d s) (k : ByteArray) : lookupD Zs s.get 60 (.map σ.next) (.str k) false = some (((lkp (seenM todo) k).map D.bool).getD (.bool false)) := by
  obtain ⟨es, clk, hm, hA⟩ := h
  exact lookup_is (z := .bool false) keyStr tz60 rfl tz4 rfl (hA.le.get _ _ (Heap.new_same _ _)) hm k
theorem closed_seen {σ : Heap} (hc : Closed σ) {m : List (ByteArray × Bool)} {es : List ME} {clk : Nat} (h : MapIs D.str D.bool m es clk) : Closed (σ.new (.map es clk)) := by
  refine hc.new fun e he => ?_
  have : (e.key, e.val) ∈ m.map (fun p => (D.str p.1, D.bool p.2)) := by rw [← h.1]; exact List.mem_map.2 ⟨e, he, rfl⟩
  obtain ⟨p, _, hp⟩ := List.mem_map.1 this
  have e1 := (Prod.mk.inj hp).1
  have e2 := (Prod.mk.inj hp).2
  rw [← e1, ← e2]
  exact ⟨.str _, .bool _⟩
theorem joins_c (l : List Wd) (t : List Sh) (h1 : ∀ r ∈ t, r.From ≠ []) (h2 : ∀ r ∈ t, r.To.length ≤ 60) (h60 : ∀ r ∈ t, r.From.length ≤ 60) (h24 : t.length ≤ 24) (hl : ∀ w ∈ l, goodW w) : Fn Zs 24 [encLL l, encT t] (.bool (joinsW t l)) := by
  refine fn_of (Z := Zs) ok24 fun σ hcl hbl => ?_
  simp -dsimp only [L24, encLL, encT, ↓preB, postB, genB, ↓reduceIte, Nat.reduceEqDiff, Int.reduceToNat, Int.reduceLE, Int.reduceLT, Nat.reduceAdd, Nat.reduceLeDiff, intBin, strBin, unD, extractD, lit1, lit2, lit3, keptD, boxR, D.one, D.pub1, D.cells, splice, cutOwn]
  refine mapUpdate_go (encv := D.bool) keyStr tz60 rfl (Heap.new_same _ _) MapIs.nil ⟨#[]⟩ true fun es clk hm => ?_
  have e0 : insA ([] : List (ByteArray × Bool)) ⟨#[]⟩ true = seenM [[]] := by rfl
  rw [e0] at hm
  simp -dsimp only [Heap.new_set, ↓preB, postB, genB, ↓reduceIte, Nat.reduceEqDiff, Int.reduceToNat, Int.reduceLE, Int.reduceLT, Nat.reduceAdd, Nat.reduceLeDiff, intBin, strBin, unD, extractD, lit1, lit2, lit3, keptD, boxR, D.one, D.pub1, D.cells, splice, cutOwn]
  have hJ0 : JoHeap σ [[]] (.sl .full 1 [.str ⟨#[]⟩]) (σ.new (.map es clk)) := ⟨es, clk, hm, Acc.full (HLe.refl _)⟩
  have g0 : goodW [] := ⟨by simp, by simp, by simp⟩
  refine pwp_loopG (fun (x : Nat × List Wd) env s => (JoHeap σ x.2 (env 6) s ∧ x.1 ≤ x.2.length ∧ TodoJ t x.2 ∧ (∀ w ∈ x.2, goodW w) ∧ outJ t l (2000 - x.1) x.1 x.2 = joinsW t l) ∧ env 7 = .int .i64 (x.1 : Nat) ∧ env 5 = .map σ.next ∧ env 0 = encLL l ∧ env 1 = encT t) (fun x => 1441 - x.1) (0, [[]]) ?_ ?_
  · simp only [upd_apply, envOf_apply, encLL, encT, Nat.reduceEqDiff, if_true, if_false]
    exact ⟨⟨hJ0, by simp, TodoJ.init t, fun w hw => by simp at hw; subst hw; exact g0, rfl⟩, by simp⟩
  · rintro ⟨i, todo⟩ env s ⟨⟨hJ, hi, hT, hg, hp⟩, h7, h5, h0, h1'⟩
    simp only at hJ hi hT hg hp h7
    have hlen := hT.len h60 h24
    obtain ⟨o, ho⟩ : ∃ o, env 6 = .sl o todo.length (todo.map fun w => .str (keyB w sp)) := by
      obtain ⟨_, _, _, hA⟩ := hJ
      exact hA.is
    rcases Nat.lt_or_ge i todo.length with hlt | hge
    · have hx : todo[i]? = some todo[i] := List.getElem?_eq_getElem hlt
      have hlp : 0 < todo.length := by omega
      have hgl := hg _ (List.getElem_mem hlt)
      generalize todo[i] = left at hx hgl
      simp -dsimp only [ho, h7, h5, h0, h1', encLL, encT, hlt, hx, hlp, List.getElem?_map, ↓preB, postB, genB, ↓reduceIte, Nat.reduceEqDiff, Int.reduceToNat, Int.reduceLE, Int.reduceLT, Nat.reduceAdd, Nat.reduceLeDiff, intBin, strBin, unD, extractD, lit1, lit2, lit3, keptD, boxR, D.one, D.pub1, D.cells, splice, cutOwn]
      intro hb
      refine Fn.use (word_c left hgl) ?_
      simp -dsimp only [ho, h7, h5, h0, h1', encLL, encT, hlt, hx, hlp, ↓preB, postB, genB, ↓reduceIte, Nat.reduceEqDiff, Int.reduceToNat, Int.reduceLE, Int.reduceLT, Nat.reduceAdd, Nat.reduceLeDiff, intBin, strBin, unD, extractD, lit1, lit2, lit3, keptD, boxR, D.one, D.pub1, D.cells, splice, cutOwn]
      refine Fn.use (shifted_c t left h1 h2 (by have := hgl.1; omega)) ?_
      simp -dsimp only [ho, h7, h5, h0, h1', encLL, encT, hlt, hx, hlp, ↓preB, postB, genB, ↓reduceIte, Nat.reduceEqDiff, Int.reduceToNat, Int.reduceLE, Int.reduceLT, Nat.reduceAdd, Nat.reduceLeDiff, intBin, strBin, unD, extractD, lit1, lit2, lit3, keptD, boxR, D.one, D.pub1, D.cells, splice, cutOwn]
      intro hb2
      have hpo : outJ t l (2000 - i) i todo = match inJ t left l todo with | none => false | some todo' => outJ t l (2000 - (i + 1)) (i + 1) todo' := by
        obtain ⟨f, hf⟩ : ∃ f, 2000 - i = f + 1 := ⟨1999 - i, by omega⟩
        have hf2 : 2000 - (i + 1) = f := by omega
        rw [hf, hf2, outJ, hx]
        rfl
      rw [hpo] at hp
      refine pwp_loopG (fun (x : Nat × List Wd) env s => (JoHeap σ x.2 (env 6) s ∧ x.1 ≤ l.length ∧ i < x.2.length ∧ TodoJ t x.2 ∧ (∀ w ∈ x.2, goodW w) ∧ inJ t left (l.drop x.1) x.2 = inJ t left l todo) ∧ env 43 = .int .i64 (x.1 : Nat) ∧ env 42 = .int .i64 l.length ∧ env 41 = encLL l ∧ env 9 = encSS (shiftW t left).1 ∧ env 8 = encSS left ∧ env 7 = .int .i64 (i : Nat) ∧ env 5 = .map σ.next ∧ env 0 = encLL l ∧ env 1 = encT t) (fun x => l.length - x.1) (0, todo) ?_ ?_
      · simp only [upd_apply, h7, h5, h0, h1', encLL, encT, Nat.reduceEqDiff, if_true, if_false]
        exact ⟨⟨hJ, Nat.zero_le _, hlt, hT, hg, by rw [List.drop_zero]⟩, by simp [encSS]⟩
      · clear hJ hi hT hg hlt hlp hlen ho h7 h5 h0 h1' hx
        rintro ⟨k, td⟩ env s ⟨⟨hJ, hk, hi, hT, hg, hq⟩, h43, h42, h41, h9, h8, h7, h5, h0, h1'⟩
        simp only at hJ hk hi hT hg hq h43
        have hlen := hT.len h60 h24
        rcases Nat.lt_or_ge k l.length with hkl | hkl
        · have hx : l[k]? = some l[k] := List.getElem?_eq_getElem hkl
          have hlp : 0 < l.length := by omega
          have hgw := hl _ (List.getElem_mem hkl)
          rw [List.drop_eq_getElem_cons hkl, inJ] at hq
          generalize l[k] = w at hx hgw hq
          have hgn := nextJ_good h1 h60 hgl hgw
          have hnok := nextJ_ok h1 left w
          have hlw : (left ++ w).length ≤ 120 := by rw [List.length_append]; have := hgl.1; have := hgw.1; omega
          have b1 := shiftW_le h1 h2 left
          have b2 := shiftW_le h1 h2 w
          have b3 := shiftW_le h1 h2 (nextJ t left w)
          have b4 := fedW_le h1 h2 (left ++ w)
          have hgl1 := hgl.1
          have hgw1 := hgw.1
          have hgn1 := hgn.1
          have fl2 : ∀ a b : Wd, [a, b].flatten = a ++ b := fun a b => by simp
          simp -dsimp only [h43, h42, h41, h9, h8, h7, h5, h0, h1', encLL, encSS, hkl, hx, hlp, ↓preB, postB, genB, ↓reduceIte, Nat.reduceEqDiff, Int.reduceToNat, Int.reduceLE, Int.reduceLT, Nat.reduceAdd, Nat.reduceLeDiff, intBin, strBin, unD, extractD, lit1, lit2, lit3, keptD, boxR, D.one, D.pub1, D.cells, splice, cutOwn]
          refine Fn.useP (Concat_c [left, w] (by rw [fl2]; omega)) (by rfl) ?_
          rw [fl2]
          simp -dsimp only [h43, h42, h41, h9, h8, h7, h5, h0, h1', encLL, hkl, hx, hlp, ↓preB, postB, genB, ↓reduceIte, Nat.reduceEqDiff, Int.reduceToNat, Int.reduceLE, Int.reduceLT, Nat.reduceAdd, Nat.reduceLeDiff, intBin, strBin, unD, extractD, lit1, lit2, lit3, keptD, boxR, D.one, D.pub1, D.cells, splice, cutOwn]
          refine PCall.use (fed_p t (left ++ w) h1 h2 (by omega)) ?_
          rintro d τ ⟨⟨c, rfl⟩, rfl⟩
          simp -dsimp only [h43, h42, h41, h9, h8, h7, h5, h0, h1', encLL, hkl, hx, hlp, ↓preB, postB, genB, ↓reduceIte, Nat.reduceEqDiff, Int.reduceToNat, Int.reduceLE, Int.reduceLT, Nat.reduceAdd, Nat.reduceLeDiff, intBin, strBin, unD, extractD, lit1, lit2, lit3, keptD, boxR, D.one, D.pub1, D.cells, splice, cutOwn]
          refine Fn.use (shifted_c t w h1 h2 (by omega)) ?_
          simp -dsimp only [h43, h42, h41, h9, h8, h7, h5, h0, h1', encLL, hkl, hx, hlp, ↓preB, postB, genB, ↓reduceIte, Nat.reduceEqDiff, Int.reduceToNat, Int.reduceLE, Int.reduceLT, Nat.reduceAdd, Nat.reduceLeDiff, intBin, strBin, unD, extractD, lit1, lit2, lit3, keptD, boxR, D.one, D.pub1, D.cells, splice, cutOwn]
          refine Fn.use (shifted_c t (nextJ t left w) h1 h2 (by omega)) ?_
          simp -dsimp only [h43, h42, h41, h9, h8, h7, h5, h0, h1', encLL, hkl, hx, hlp, ↓preB, postB, genB, ↓reduceIte, Nat.reduceEqDiff, Int.reduceToNat, Int.reduceLE, Int.reduceLT, Nat.reduceAdd, Nat.reduceLeDiff, intBin, strBin, unD, extractD, lit1, lit2, lit3, keptD, boxR, D.one, D.pub1, D.cells, splice, cutOwn]
          simp -dsimp only [encSS, ↓preB, postB, genB, ↓reduceIte, Nat.reduceEqDiff, Int.reduceToNat, Int.reduceLE, Int.reduceLT, Nat.reduceAdd, Nat.reduceLeDiff, intBin, strBin, unD, extractD, lit1, lit2, lit3, keptD, boxR, D.one, D.pub1, D.cells, splice, cutOwn]
          refine Fn.useP (Concat_c [(shiftW t left).1, (shiftW t w).1] (by rw [fl2, List.length_append]; omega)) (by rfl) ?_
          rw [fl2]
          simp -dsimp only [h43, h42, h41, h9, h8, h7, h5, h0, h1', encLL, encSS, hkl, hx, hlp, ↓preB, postB, genB, ↓reduceIte, Nat.reduceEqDiff, Int.reduceToNat, Int.reduceLE, Int.reduceLT, Nat.reduceAdd, Nat.reduceLeDiff, intBin, strBin, unD, extractD, lit1, lit2, lit3, keptD, boxR, D.one, D.pub1, D.cells, splice, cutOwn]
          refine Fn.useP (Concat_c [(fedW t (left ++ w)).1, (shiftW t (nextJ t left w)).1] (by rw [fl2, List.length_append]; omega)) (by rfl) ?_
          rw [fl2]
          simp -dsimp only [h43, h42, h41, h9, h8, h7, h5, h0, h1', encLL, hkl, hx, hlp, ↓preB, postB, genB, ↓reduceIte, Nat.reduceEqDiff, Int.reduceToNat, Int.reduceLE, Int.reduceLT, Nat.reduceAdd, Nat.reduceLeDiff, intBin, strBin, unD, extractD, lit1, lit2, lit3, keptD, boxR, D.one, D.pub1, D.cells, splice, cutOwn]
          refine Fn.use (Equal_c _ _) ?_
          have hst : eqW ((shiftW t left).1 ++ (shiftW t w).1) ((fedW t (left ++ w)).1 ++ (shiftW t (nextJ t left w)).1) = stepJ t left w := rfl
          rw [hst]
          cases hs : stepJ t left w with
          | false =>
            rw [if_neg (by rw [hs]; decide)] at hq
            rw [← hq] at hp
            simp -dsimp only [h43, h42, h41, h9, h8, h7, h5, h0, h1', encLL, hkl, hx, hlp, ↓preB, postB, genB, ↓reduceIte, Nat.reduceEqDiff, Int.reduceToNat, Int.reduceLE, Int.reduceLT, Nat.reduceAdd, Nat.reduceLeDiff, intBin, strBin, unD, extractD, lit1, lit2, lit3, keptD, boxR, D.one, D.pub1, D.cells, splice, cutOwn]
            exact Ret.isH (hJ.le hcl) hcl (by rw [← hp]) (.bool _)
          | true =>
            rw [if_pos hs] at hq
            simp -dsimp only [h43, h42, h41, h9, h8, h7, h5, h0, h1', encLL, hkl, hx, hlp, ↓preB, postB, genB, ↓reduceIte, Nat.reduceEqDiff, Int.reduceToNat, Int.reduceLE, Int.reduceLT, Nat.reduceAdd, Nat.reduceLeDiff, intBin, strBin, unD, extractD, lit1, lit2, lit3, keptD, boxR, D.one, D.pub1, D.cells, splice, cutOwn]
            refine Fn.use (key_c (nextJ t left w) hgn) ?_
            simp -dsimp only [h43, h42, h41, h9, h8, h7, h5, h0, h1', encLL, hkl, hx, hlp, hJ.look, ↓preB, postB, genB, ↓reduceIte, Nat.reduceEqDiff, Int.reduceToNat, Int.reduceLE, Int.reduceLT, Nat.reduceAdd, Nat.reduceLeDiff, intBin, strBin, unD, extractD, lit1, lit2, lit3, keptD, boxR, D.one, D.pub1, D.cells, splice, cutOwn]
            by_cases hm : nextJ t left w ∈ td
            · rw [seenM_in hm]
              have ha : addJ td (nextJ t left w) = td := by unfold addJ; rw [if_pos (anyEq.2 hm)]
              rw [ha] at hq
              simp -dsimp only [h43, h42, h41, h9, h8, h7, h5, h0, h1', encLL, hkl, hx, hlp, Option.getD_some, Bool.not_true, ↓preB, postB, genB, ↓reduceIte, Nat.reduceEqDiff, Int.reduceToNat, Int.reduceLE, Int.reduceLT, Nat.reduceAdd, Nat.reduceLeDiff, intBin, strBin, unD, extractD, lit1, lit2, lit3, keptD, boxR, D.one, D.pub1, D.cells, splice, cutOwn]
              exact ⟨(k + 1, td), ⟨⟨hJ, by simp only []; omega, hi, hT, hg, hq⟩, wrap64_succ (by omega)⟩, by simp only []; omega⟩
            · rw [seenM_out hg hgn hm]
              have ha : addJ td (nextJ t left w) = td ++ [nextJ t left w] := by unfold addJ; rw [if_neg fun h => hm (anyEq.1 h)]
              rw [ha] at hq
              simp -dsimp only [h43, h42, h41, h9, h8, h7, h5, h0, h1', encLL, hkl, hx, hlp, Option.getD_none, Option.map_none, Bool.not_false, ↓preB, postB, genB, ↓reduceIte, Nat.reduceEqDiff, Int.reduceToNat, Int.reduceLE, Int.reduceLT, Nat.reduceAdd, Nat.reduceLeDiff, intBin, strBin, unD, extractD, lit1, lit2, lit3, keptD, boxR, D.one, D.pub1, D.cells, splice, cutOwn]
              obtain ⟨es2, clk2, hm2, hA⟩ := hJ
              refine mapUpdate_go (encv := D.bool) keyStr tz60 rfl (hA.le.get _ _ (Heap.new_same _ _)) hm2 (keyB (nextJ t left w) sp) true fun es3 clk3 hm3 => ?_
              rw [seenM_add hg hgn hm] at hm3
              have hA2 := (hA.set (x := .map es3 clk3) (closed_seen hcl hm2) (Heap.new_same _ _)).2
              rw [Heap.new_set] at hA2
              simp -dsimp only [h43, h42, h41, h9, h8, h7, h5, h0, h1', encLL, hkl, hx, hlp, ↓preB, postB, genB, ↓reduceIte, Nat.reduceEqDiff, Int.reduceToNat, Int.reduceLE, Int.reduceLT, Nat.reduceAdd, Nat.reduceLeDiff, intBin, strBin, unD, extractD, lit1, lit2, lit3, keptD, boxR, D.one, D.pub1, D.cells, splice, cutOwn]
              refine hA2.append (closed_seen hcl hm3) tz29 rfl tz9 rfl rfl rfl (by decide) (by simp) (fedBy_sl tz29 rfl rfl) (by simp only []; omega) (by simp only [big]; omega) fun d' s' hA' => ?_
              simp -dsimp only [h43, h42, h41, h9, h8, h7, h5, h0, h1', encLL, hkl, hx, hlp, ↓preB, postB, genB, ↓reduceIte, Nat.reduceEqDiff, Int.reduceToNat, Int.reduceLE, Int.reduceLT, Nat.reduceAdd, Nat.reduceLeDiff, intBin, strBin, unD, extractD, lit1, lit2, lit3, keptD, boxR, D.one, D.pub1, D.cells, splice, cutOwn]
              have hT' := hT.add hnok
              rw [ha] at hT'
              refine ⟨(k + 1, td ++ [nextJ t left w]), ⟨⟨⟨es3, clk3, hm3, by simpa using hA'⟩, by simp only []; omega, by simp only [List.length_append]; omega, hT', fun x hx => ?_, hq⟩, wrap64_succ (by omega)⟩, by simp only []; omega⟩
              rcases List.mem_append.1 hx with hx | hx
              · exact hg x hx
              · simp at hx; subst hx; exact hgn
        · have hkl : k = l.length := by omega
          subst hkl
          rw [List.drop_length, inJ] at hq
          rw [← hq] at hp
          simp -dsimp only [h43, h42, h41, h9, h8, h7, h5, h0, h1', encLL, Nat.lt_irrefl, ↓preB, postB, genB, ↓reduceIte, Nat.reduceEqDiff, Int.reduceToNat, Int.reduceLE, Int.reduceLT, Nat.reduceAdd, Nat.reduceLeDiff, intBin, strBin, unD, extractD, lit1, lit2, lit3, keptD, boxR, D.one, D.pub1, D.cells, splice, cutOwn]
          refine ⟨(i + 1, td), ⟨⟨hJ, by simp only []; omega, hT, hg, hp⟩, wrap64_succ (by simp only [big]; omega)⟩, by simp only []; omega⟩
    · have hil : i = todo.length := by omega
      subst hil
      rw [← hp]
      simp -dsimp only [ho, h7, h5, h0, h1', encLL, Nat.lt_irrefl, ↓preB, postB, genB, ↓reduceIte, Nat.reduceEqDiff, Int.reduceToNat, Int.reduceLE, Int.reduceLT, Nat.reduceAdd, Nat.reduceLeDiff, intBin, strBin, unD, extractD, lit1, lit2, lit3, keptD, boxR, D.one, D.pub1, D.cells, splice, cutOwn]
      intro _
      refine Ret.isH (hJ.le hcl) hcl ?_ (.bool _)
      have : outJ t l (2000 - todo.length) todo.length todo = true := by
        cases h : 2000 - todo.length with
        | zero => rfl
        | succ f => rw [outJ, List.getElem?_eq_none (Nat.le_refl _)]
      rw [this]
end Go.Proofs.YtldlcejlfaogbaaDoor.Vs
