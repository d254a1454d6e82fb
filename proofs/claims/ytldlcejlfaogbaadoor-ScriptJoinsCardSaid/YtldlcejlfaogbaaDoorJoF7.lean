/- numbers of YtldlcejlfaogbaaDoor -/
/- Two tables joined by the reference. -/
import Derived.Test.YtldlcejlfaogbaaDoorJoF6
import Derived.Test.YtldlcejlfaogbaaDoorFnH
namespace Go.Proofs.YtldlcejlfaogbaaDoor.Vs
set_option linter.unusedVariables false
set_option linter.unusedSimpArgs false
set_option maxRecDepth 20000

/-! ### the search's heap -/
def baseM (σ : Heap) (m : Nat) (es : List ME) (c : Nat) : Heap := ⟨m + 1, fun i => if i = m then some (.map es c) else σ.get i⟩
theorem baseM_map {σ : Heap} {m : Nat} {es : List ME} {c : Nat} : (baseM σ m es c).get m = some (.map es c) := by simp [baseM]
theorem baseM_le {σ : Heap} (hc : Closed σ) {m : Nat} (hm : σ.next ≤ m) {es : List ME} {c : Nat} : HLe σ (baseM σ m es c) := ⟨by simp only [baseM]; omega, fun r o h => by
  have := hc.lt r o h
  simp only [baseM]
  rw [if_neg (by omega)]; exact h⟩
theorem baseM_set {σ : Heap} {m : Nat} {es es' : List ME} {c c' : Nat} : (baseM σ m es c).set m (.map es' c') = baseM σ m es' c' := by
  refine Heap.ext rfl fun i => ?_
  simp only [baseM, Heap.set]
  split <;> rfl
theorem baseM_new {σ s : Heap} (hle : HLe σ s) (hc : Closed σ) (es : List ME) (c : Nat) : HLe (baseM σ s.next es c) (s.new (.map es c)) := ⟨Nat.le_refl _, fun r o h => by
  simp only [baseM] at h
  rw [Heap.new_get]
  split at h
  · rename_i e; rw [if_pos e]; exact h
  · rename_i e; rw [if_neg e]; exact hle.get r o h⟩
theorem mapIs_bel {ν : Type} {encv : ν → D} {m : List (ByteArray × ν)} {es : List ME} {clk N : Nat} (h : MapIs D.str encv m es clk) (hv : ∀ v, Bel N (encv v)) : ∀ e ∈ es, Bel N e.key ∧ Bel N e.val := fun e he => by
  have : (e.key, e.val) ∈ m.map (fun p => (D.str p.1, encv p.2)) := by rw [← h.1]; exact List.mem_map.2 ⟨e, he, rfl⟩
  obtain ⟨p, _, hp⟩ := List.mem_map.1 this
  have e1 := (Prod.mk.inj hp).1
  have e2 := (Prod.mk.inj hp).2
  rw [← e1, ← e2]
  exact ⟨.str _, hv _⟩
theorem baseM_closed {σ : Heap} (hc : Closed σ) {m : Nat} (hm : σ.next ≤ m) {es : List ME} {c : Nat} (h : ∀ N, ∀ e ∈ es, Bel N e.key ∧ Bel N e.val) : Closed (baseM σ m es c) := by
  refine ⟨fun r o hr => ?_, fun r o hr => ?_⟩
  · simp only [baseM] at hr ⊢
    split at hr
    · omega
    · have := hc.lt r o hr; omega
  · simp only [baseM] at hr ⊢
    split at hr
    · cases hr; exact fun e he => h _ e he
    · have := (hc.ok r o hr).mono (M := m + 1) (by omega)
      exact this
/-! ### what is seen -/
def seenX (todo : List Wd) : List (ByteArray × Bool) := todo.map fun w => (writB w, true)
theorem seenX_keys (todo : List Wd) : (seenX todo).map Prod.fst = todo.map writB := by simp [seenX]
theorem seenX_out {todo : List Wd} (hg : ∀ w ∈ todo, goodX w) {n : Wd} (hn : goodX n) (hm : n ∉ todo) : lkp (seenX todo) (writB n) = none := by
  refine lkp_none.2 ?_
  rw [seenX_keys]
  intro h
  obtain ⟨w, hw, he⟩ := List.mem_map.1 h
  exact hm (writB_inj (hg w hw) hn he ▸ hw)
theorem seenX_in {todo : List Wd} {n : Wd} (hm : n ∈ todo) : lkp (seenX todo) (writB n) = some true := by
  cases h : lkp (seenX todo) (writB n) with
  | none =>
    refine absurd (lkp_none.1 h) ?_
    rw [seenX_keys]
    exact fun hc => hc (List.mem_map.2 ⟨n, hm, rfl⟩)
  | some v =>
    have := lkp_mem h
    obtain ⟨w, hw, he⟩ := List.mem_map.1 this
    rw [← (Prod.mk.inj he).2]
theorem seenX_add {todo : List Wd} (hg : ∀ w ∈ todo, goodX w) {n : Wd} (hn : goodX n) (hm : n ∉ todo) : insA (seenX todo) (writB n) true = seenX (todo ++ [n]) := by
  have h := seenX_out hg hn hm
  cases hf : findA (seenX todo) (writB n) 0 with
  | none => rw [(findA_none hf).2]; simp [seenX]
  | some q =>
    obtain ⟨i, v⟩ := q
    obtain ⟨_, _, h3, _⟩ := findA_some hf
    rw [h] at h3; cases h3
/-- The rests; the first of them is nil. -/
def encRs (tl : List Wd) : List D := .sl .nil 0 [] :: tl.map encSS
theorem encRs_at {tl : List Wd} {i : Nat} {w : Wd} (h : ([] :: tl)[i]? = some w) : ∃ x, (encRs tl)[i]? = some x ∧ x.pub1 = encSS w ∧ ∃ o n cs, x = .sl o n cs := by
  cases i with
  | zero =>
    simp at h
    subst h
    exact ⟨_, rfl, rfl, _, _, _, rfl⟩
  | succ i =>
    simp only [List.getElem?_cons_succ] at h
    refine ⟨encSS w, ?_, rfl, _, _, _, rfl⟩
    simp only [encRs, List.getElem?_cons_succ, List.getElem?_map, h, Option.map_some]
def ReHeap (σ : Heap) (m : Nat) (tl : List Wd) (d : D) (s : Heap) : Prop :=
  ∃ es clk, MapIs D.str D.bool (seenX ([] :: tl)) es clk ∧ Acc 29 1 (baseM σ m es clk) (tl.length + 1) (encRs tl) d s
theorem ReHeap.le {σ : Heap} (hc : Closed σ) {m : Nat} (hm : σ.next ≤ m) {tl : List Wd} {d : D} {s : Heap} (h : ReHeap σ m tl d s) : HLe σ s := by
  obtain ⟨es, clk, _, hA⟩ := h
  exact (baseM_le hc hm).trans hA.le
theorem ReHeap.look {σ : Heap} {m : Nat} {tl : List Wd} {d : D} {s : Heap} (h : ReHeap σ m tl d s) (k : ByteArray) : lookupD Zs s.get 60 (.map m) (.str k) false = some (((lkp (seenX ([] :: tl)) k).map D.bool).getD (.bool false)) := by
  obtain ⟨es, clk, hm, hA⟩ := h
  exact lookup_is (z := .bool false) keyStr tz60 rfl tz4 rfl (hA.le.get _ _ baseM_map) hm k
theorem goodX.l {w : Wd} (h : goodX w) (n : Nat) : goodX (w.drop n) := ⟨fun s hs => h.1 s (List.mem_of_mem_drop hs), fun s hs => h.2 s (List.mem_of_mem_drop hs)⟩
theorem goodX.app {a b : Wd} (h : goodX a) (k : goodX b) : goodX (a ++ b) := ⟨fun s hs => (List.mem_append.1 hs).elim (h.1 s) (k.1 s), fun s hs => (List.mem_append.1 hs).elim (h.2 s) (k.2 s)⟩
theorem nextJ_goodX {t : List Sh} (h1 : ∀ r ∈ t, r.From ≠ []) {left w : Wd} (hl : goodX left) (hw : goodX w) : goodX (nextJ t left w) := by
  obtain ⟨_, k, e⟩ := fedW_left h1 _ (left ++ w) (Nat.le_refl _)
  unfold nextJ; rw [e]; exact (hl.app hw).l k
theorem refJoin_c (a b : List Sh) : Fn Zs 10 [encT a, encT b] (encJ (joinV a b)) := by
  refine fn_of (Z := Zs) ok10 fun σ hcl hbl => ?_
  simp -dsimp only [L10, ↓preB, postB, genB, ↓reduceIte, Nat.reduceEqDiff, Int.reduceToNat, Int.reduceLE, Int.reduceLT, Nat.reduceAdd, Nat.reduceLeDiff, intBin, strBin, unD, extractD, lit1, lit2, lit3, keptD, boxR, D.one, D.pub1, D.cells, splice, cutOwn]
  have jerr : joinE a b ≠ 0 → joinV a b = ([], false, joinE a b) := fun h => by rw [joinV, if_pos h]
  have err : ∀ (e : Int) (s : Heap), HLe σ s → e ≠ 0 → joinE a b = e → Ret σ (fun d τ => d = encJ (joinV a b) ∧ τ = σ) (.tup [.sl .nil 0 [], .bool false, .int .i64 e]) s := fun e s hle h0 he => by
    rw [jerr (he ▸ h0), he]
    exact Ret.less hle hcl (.tup3 told_nilT (.refl _) (.refl _)) (bel_encJ ([], false, e))
  refine Fn.use (refValidate_c a) ?_
  cases ca : (badT a != 0)
  case true =>
    have c' : badT a ≠ 0 := by simpa using ca
    simp -dsimp only [ca, ↓preB, postB, genB, ↓reduceIte, Nat.reduceEqDiff, Int.reduceToNat, Int.reduceLE, Int.reduceLT, Nat.reduceAdd, Nat.reduceLeDiff, intBin, strBin, unD, extractD, lit1, lit2, lit3, keptD, boxR, D.one, D.pub1, D.cells, splice, cutOwn]
    exact err _ _ (HLe.refl _) c' (by rw [joinE, if_pos c'])
  have ha0 : badT a = 0 := by simpa using ca
  simp -dsimp only [ca, ↓preB, postB, genB, ↓reduceIte, Nat.reduceEqDiff, Int.reduceToNat, Int.reduceLE, Int.reduceLT, Nat.reduceAdd, Nat.reduceLeDiff, intBin, strBin, unD, extractD, lit1, lit2, lit3, keptD, boxR, D.one, D.pub1, D.cells, splice, cutOwn]
  refine Fn.use (refValidate_c b) ?_
  cases cb : (badT b != 0)
  case true =>
    have c' : badT b ≠ 0 := by simpa using cb
    simp -dsimp only [cb, ↓preB, postB, genB, ↓reduceIte, Nat.reduceEqDiff, Int.reduceToNat, Int.reduceLE, Int.reduceLT, Nat.reduceAdd, Nat.reduceLeDiff, intBin, strBin, unD, extractD, lit1, lit2, lit3, keptD, boxR, D.one, D.pub1, D.cells, splice, cutOwn]
    exact err _ _ (HLe.refl _) c' (by rw [joinE, if_neg (by simpa using ha0), if_pos c'])
  have hb0 : badT b = 0 := by simpa using cb
  obtain ⟨hb1, hb2⟩ := table_ok hb0
  obtain ⟨hb3, hb4, _⟩ := badT_zero hb0
  obtain ⟨ha1, ha2⟩ := table_ok ha0
  obtain ⟨ha3, ha4, _⟩ := badT_zero ha0
  have ha4' := firstE_zero ha4
  have eJ : joinE a b = if askE a ≠ 0 then askE a else if (joinT a b).any (fun r => decide (60 < r.To.length)) = true then 3 else 0 := by rw [joinE, if_neg (by simpa using ha0), if_neg (by simpa using hb0)]
  simp -dsimp only [cb, ↓preB, postB, genB, ↓reduceIte, Nat.reduceEqDiff, Int.reduceToNat, Int.reduceLE, Int.reduceLT, Nat.reduceAdd, Nat.reduceLeDiff, intBin, strBin, unD, extractD, lit1, lit2, lit3, keptD, boxR, D.one, D.pub1, D.cells, splice, cutOwn]
  refine Fn.use (isPlain_c a) ?_
  cases cp : plainT a
  case false =>
    simp -dsimp only [cp, ↓preB, postB, genB, ↓reduceIte, Nat.reduceEqDiff, Int.reduceToNat, Int.reduceLE, Int.reduceLT, Nat.reduceAdd, Nat.reduceLeDiff, intBin, strBin, unD, extractD, lit1, lit2, lit3, keptD, boxR, D.one, D.pub1, D.cells, splice, cutOwn]
    have : askE a = 7 := by simp [askE, cp]
    exact err 7 _ (HLe.refl _) (by decide) (by rw [eJ, this]; rfl)
  simp -dsimp only [cp, ↓preB, postB, genB, ↓reduceIte, Nat.reduceEqDiff, Int.reduceToNat, Int.reduceLE, Int.reduceLT, Nat.reduceAdd, Nat.reduceLeDiff, intBin, strBin, unD, extractD, lit1, lit2, lit3, keptD, boxR, D.one, D.pub1, D.cells, splice, cutOwn]
  refine Fn.use (tos_c a (by omega)) ?_
  simp -dsimp only [↓preB, postB, genB, ↓reduceIte, Nat.reduceEqDiff, Int.reduceToNat, Int.reduceLE, Int.reduceLT, Nat.reduceAdd, Nat.reduceLeDiff, intBin, strBin, unD, extractD, lit1, lit2, lit3, keptD, boxR, D.one, D.pub1, D.cells, splice, cutOwn]
  refine Fn.use (isLong8_c (a.map (·.To))) ?_
  simp -dsimp only [encT, ↓preB, postB, genB, ↓reduceIte, Nat.reduceEqDiff, Int.reduceToNat, Int.reduceLE, Int.reduceLT, Nat.reduceAdd, Nat.reduceLeDiff, intBin, strBin, unD, extractD, lit1, lit2, lit3, keptD, boxR, D.one, D.pub1, D.cells, splice, cutOwn]
  have eA : askE a = if (a.map (·.To)).any long8 = true then 3 else 0 := by
    have : (a.any fun r => decide ((8 : Int) < r.To.length)) = (a.map (·.To)).any long8 := by
      rw [List.any_map]
      congr 1
      funext r
      simp only [Function.comp, long8]
      exact decide_eq_decide.2 (by omega)
    rw [askE, cp, this]
    rfl
  generalize (a.map (·.To)).any long8 = l8 at eA ⊢
  refine pwp_loopG (fun k env s => (k ≤ a.length ∧ Acc 46 2 σ k (rowsD (joinT (a.take k) b)) (env 9) s) ∧ env 10 = .bool (l8 || (joinT (a.take k) b).any (fun r => decide (60 < r.To.length))) ∧ env 11 = .int .i64 (k:Nat) ∧ env 0 = encT a ∧ env 1 = encT b) (fun k => a.length - k) 0 ?_ ?_
  · simp only [upd_apply, envOf_apply, encT, Nat.reduceEqDiff, if_true, if_false]
    exact ⟨⟨Nat.zero_le _, Acc.nil (HLe.refl _)⟩, by simp [joinT], rfl, rfl, rfl⟩
  · rintro k env s ⟨⟨hk, hA⟩, h10, h11, h0, h1⟩
    rcases Nat.lt_or_ge k a.length with hlt | hge
    · have hd := rowsD_at hlt
      have hpos : 0 < (rowsD a).length := by rw [rowsD_len]; omega
      have hak := List.getElem_mem hlt
      have htl := ha2 _ hak
      have hfl : a[k].From.length ≤ 60 := badW_len (ha4' _ hak).1
      have hjt := joinT_take (b := b) hlt
      obtain ⟨B, hB⟩ : ∃ B, (l8 || (joinT (a.take k) b).any (fun r => decide (60 < r.To.length))) = B := ⟨_, rfl⟩
      rw [hB] at h10
      generalize a[k] = r at hd htl hfl hjt hak ⊢
      simp -dsimp only [h10, h11, h0, h1, encT, hlt, hd, hpos, ↓preB, postB, genB, ↓reduceIte, Nat.reduceEqDiff, Int.reduceToNat, Int.reduceLE, Int.reduceLT, Nat.reduceAdd, Nat.reduceLeDiff, intBin, strBin, unD, extractD, lit1, lit2, lit3, keptD, boxR, D.one, D.pub1, D.cells, splice, cutOwn]
      intro hbig
      have hnxt : (l8 || (joinT (a.take (k + 1)) b).any (fun r => decide (60 < r.To.length))) = (B || decide (60 < (shiftW b r.To).1.length)) := by
        rw [hjt, List.any_append, ← Bool.or_assoc, hB]
        simp
      have hsl := shiftW_le hb1 hb2 r.To
      refine Fn.use (Shifted_c b r.To hb1 hb2 (by omega) (by omega)) ?_
      cases B
      · by_cases h60 : 60 < (shiftW b r.To).1.length
        · have h60' : (60 : Int) < ((shiftW b r.To).1.length : Int) := by omega
          simp -dsimp only [h10, h11, h0, h1, encT, encSS, hlt, hd, hpos, gate, beq_self_eq_true, h60', ↓preB, postB, genB, ↓reduceIte, Nat.reduceEqDiff, Int.reduceToNat, Int.reduceLE, Int.reduceLT, Nat.reduceAdd, Nat.reduceLeDiff, intBin, strBin, unD, extractD, lit1, lit2, lit3, keptD, boxR, D.one, D.pub1, D.cells, splice, cutOwn]
          intro _
          refine Fn.useP (refJoinW_c r.From [] (by omega) (by simp)) (by rfl) ?_
          rw [List.append_nil]
          simp -dsimp only [h10, h11, h0, h1, encT, encSS, hlt, hd, hpos, ab46, bs22, ↓preB, postB, genB, ↓reduceIte, Nat.reduceEqDiff, Int.reduceToNat, Int.reduceLE, Int.reduceLT, Nat.reduceAdd, Nat.reduceLeDiff, intBin, strBin, unD, extractD, lit1, lit2, lit3, keptD, boxR, D.one, D.pub1, D.cells, splice, cutOwn]
          refine hA.append hcl tz22 rfl tz46 rfl rfl rfl (by decide) (by rw [rowsD_len]; simp [joinT]; omega) (fedBy_sl (m := 1) tz22 rfl rfl) (by simp only []; omega) (by simp only [big]; omega) fun d2 s2 hA2 => ?_
          simp -dsimp only [h10, h11, h0, h1, encT, encSS, hlt, hd, hpos, ↓preB, postB, genB, ↓reduceIte, Nat.reduceEqDiff, Int.reduceToNat, Int.reduceLE, Int.reduceLT, Nat.reduceAdd, Nat.reduceLeDiff, intBin, strBin, unD, extractD, lit1, lit2, lit3, keptD, boxR, D.one, D.pub1, D.cells, splice, cutOwn]
          refine ⟨k + 1, ⟨⟨by omega, ?_⟩, ?_, wrap64_succ (by omega)⟩, by omega⟩
          · rw [hjt, rowsD_append]; exact hA2
          · rw [hnxt]; simp [h60]
        · have h60' : ¬ (60 : Int) < ((shiftW b r.To).1.length : Int) := by omega
          simp -dsimp only [h10, h11, h0, h1, encT, encSS, hlt, hd, hpos, gate, beq_self_eq_true, h60', ↓preB, postB, genB, ↓reduceIte, Nat.reduceEqDiff, Int.reduceToNat, Int.reduceLE, Int.reduceLT, Nat.reduceAdd, Nat.reduceLeDiff, intBin, strBin, unD, extractD, lit1, lit2, lit3, keptD, boxR, D.one, D.pub1, D.cells, splice, cutOwn]
          intro _
          refine Fn.useP (refJoinW_c r.From [] (by omega) (by simp)) (by rfl) ?_
          rw [List.append_nil]
          simp -dsimp only [h10, h11, h0, h1, encT, encSS, hlt, hd, hpos, ab46, bs22, ↓preB, postB, genB, ↓reduceIte, Nat.reduceEqDiff, Int.reduceToNat, Int.reduceLE, Int.reduceLT, Nat.reduceAdd, Nat.reduceLeDiff, intBin, strBin, unD, extractD, lit1, lit2, lit3, keptD, boxR, D.one, D.pub1, D.cells, splice, cutOwn]
          refine hA.append hcl tz22 rfl tz46 rfl rfl rfl (by decide) (by rw [rowsD_len]; simp [joinT]; omega) (fedBy_sl (m := 1) tz22 rfl rfl) (by simp only []; omega) (by simp only [big]; omega) fun d2 s2 hA2 => ?_
          simp -dsimp only [h10, h11, h0, h1, encT, encSS, hlt, hd, hpos, ↓preB, postB, genB, ↓reduceIte, Nat.reduceEqDiff, Int.reduceToNat, Int.reduceLE, Int.reduceLT, Nat.reduceAdd, Nat.reduceLeDiff, intBin, strBin, unD, extractD, lit1, lit2, lit3, keptD, boxR, D.one, D.pub1, D.cells, splice, cutOwn]
          refine ⟨k + 1, ⟨⟨by omega, ?_⟩, ?_, wrap64_succ (by omega)⟩, by omega⟩
          · rw [hjt, rowsD_append]; exact hA2
          · rw [hnxt]; simp [h60]
      · simp -dsimp only [h10, h11, h0, h1, encT, encSS, hlt, hd, hpos, gate, show (true == false) = false from rfl, ↓preB, postB, genB, ↓reduceIte, Nat.reduceEqDiff, Int.reduceToNat, Int.reduceLE, Int.reduceLT, Nat.reduceAdd, Nat.reduceLeDiff, intBin, strBin, unD, extractD, lit1, lit2, lit3, keptD, boxR, D.one, D.pub1, D.cells, splice, cutOwn]
        refine Fn.useP (refJoinW_c r.From [] (by omega) (by simp)) (by rfl) ?_
        rw [List.append_nil]
        simp -dsimp only [h10, h11, h0, h1, encT, encSS, hlt, hd, hpos, ab46, bs22, ↓preB, postB, genB, ↓reduceIte, Nat.reduceEqDiff, Int.reduceToNat, Int.reduceLE, Int.reduceLT, Nat.reduceAdd, Nat.reduceLeDiff, intBin, strBin, unD, extractD, lit1, lit2, lit3, keptD, boxR, D.one, D.pub1, D.cells, splice, cutOwn]
        refine hA.append hcl tz22 rfl tz46 rfl rfl rfl (by decide) (by rw [rowsD_len]; simp [joinT]; omega) (fedBy_sl (m := 1) tz22 rfl rfl) (by simp only []; omega) (by simp only [big]; omega) fun d2 s2 hA2 => ?_
        simp -dsimp only [h10, h11, h0, h1, encT, encSS, hlt, hd, hpos, ↓preB, postB, genB, ↓reduceIte, Nat.reduceEqDiff, Int.reduceToNat, Int.reduceLE, Int.reduceLT, Nat.reduceAdd, Nat.reduceLeDiff, intBin, strBin, unD, extractD, lit1, lit2, lit3, keptD, boxR, D.one, D.pub1, D.cells, splice, cutOwn]
        refine ⟨k + 1, ⟨⟨by omega, ?_⟩, ?_, wrap64_succ (by omega)⟩, by omega⟩
        · rw [hjt, rowsD_append]; exact hA2
        · rw [hnxt]; simp
    · have hkl : k = a.length := by omega
      subst hkl
      rw [List.take_length] at hA h10
      cases hB : (l8 || (joinT a b).any (fun r => decide (60 < r.To.length)))
      case true =>
        rw [hB] at h10
        simp -dsimp only [h10, h11, h0, h1, encT, Nat.lt_irrefl, ↓preB, postB, genB, ↓reduceIte, Nat.reduceEqDiff, Int.reduceToNat, Int.reduceLE, Int.reduceLT, Nat.reduceAdd, Nat.reduceLeDiff, intBin, strBin, unD, extractD, lit1, lit2, lit3, keptD, boxR, D.one, D.pub1, D.cells, splice, cutOwn]
        intros
        refine err 3 _ hA.le (by decide) ?_
        rw [eJ, eA]
        cases l8
        · rw [Bool.false_or] at hB
          rw [hB]; rfl
        · rfl
      rw [hB] at h10
      obtain ⟨hl8, hany⟩ := Bool.or_eq_false_iff.1 hB
      have hE : joinE a b = 0 := by rw [eJ, eA, hl8, hany]; rfl
      simp -dsimp only [h10, h11, h0, h1, encT, Nat.lt_irrefl, ↓preB, postB, genB, ↓reduceIte, Nat.reduceEqDiff, Int.reduceToNat, Int.reduceLE, Int.reduceLT, Nat.reduceAdd, Nat.reduceLeDiff, intBin, strBin, unD, extractD, lit1, lit2, lit3, keptD, boxR, D.one, D.pub1, D.cells, splice, cutOwn]
      intro _
      have hσs := hA.le
      have hn0 : σ.next ≤ s.next := hσs.next
      refine mapUpdate_go (encv := D.bool) keyStr tz60 rfl (Heap.new_same _ _) MapIs.nil ⟨#[]⟩ true fun es clk hm => ?_
      have e0 : insA ([] : List (ByteArray × Bool)) ⟨#[]⟩ true = seenX [[]] := by rfl
      rw [e0] at hm
      simp -dsimp only [h10, h11, h0, h1, encT, Heap.new_set, ↓preB, postB, genB, ↓reduceIte, Nat.reduceEqDiff, Int.reduceToNat, Int.reduceLE, Int.reduceLT, Nat.reduceAdd, Nat.reduceLeDiff, intBin, strBin, unD, extractD, lit1, lit2, lit3, keptD, boxR, D.one, D.pub1, D.cells, splice, cutOwn]
      have hJ0 : ReHeap σ s.next [] (.sl .full 1 [.sl .nil 0 []]) (s.new (.map es clk)) := ⟨es, clk, hm, Acc.full (baseM_new hσs hcl es clk)⟩
      obtain ⟨o9, ho9⟩ := hA.is
      rw [ho9] at hA
      have hout : joinV a b = if joinsW b (a.map (·.To)) = true then (joinT a b, true, 0) else ([], false, 0) := by rw [joinV, if_neg (by simpa using hE)]
      have hgx : ∀ r ∈ a, goodX r.To := fun r hr => badW_goodX (ha4' r hr).2
      have hjl : (joinT a b).length = a.length := by simp [joinT]
      have h60 : ∀ r ∈ b, r.From.length ≤ 60 := fun r hr => badW_len (firstE_zero hb4 r hr).1
      generalize s.next = m at hJ0 hn0 hσs ⊢
      generalize s.new (.map es clk) = s0 at hJ0 ⊢
      refine pwp_loopG (fun (x : Nat × List Wd) env s => (ReHeap σ m x.2 (env 16) s ∧ x.1 ≤ x.2.length + 1 ∧ TodoJ b ([] :: x.2) ∧ (∀ w ∈ [] :: x.2, goodX w) ∧ outJ b (a.map (·.To)) (2000 - x.1) x.1 ([] :: x.2) = joinsW b (a.map (·.To))) ∧ env 17 = .int .i64 (x.1 : Nat) ∧ env 15 = .map m ∧ env 9 = .sl o9 a.length (rowsD (joinT a b)) ∧ env 0 = encT a ∧ env 1 = encT b) (fun x => 1441 - x.1) (0, []) ?_ ?_
      · simp only [upd_apply, h0, h1, ho9, encT, Nat.reduceEqDiff, if_true, if_false]
        exact ⟨⟨hJ0, Nat.zero_le _, TodoJ.init b, fun w hw => by simp at hw; subst hw; exact ⟨by simp, by simp⟩, rfl⟩, rfl, trivial, trivial, trivial, trivial⟩
      · clear h0 h1 h10 h11 ho9 hA hJ0 hσs hk hge
        rintro ⟨i, tl⟩ env s ⟨⟨hJ, hi, hT, hg, hp⟩, h17, h15, h9, h0, h1⟩
        simp only at hJ hi hT hg hp h17
        have hlen := hT.len h60 hb3
        rw [List.length_cons] at hlen
        obtain ⟨o, ho⟩ : ∃ o, env 16 = .sl o (tl.length + 1) (encRs tl) := by
          obtain ⟨_, _, _, hA⟩ := hJ
          exact hA.is
        have hrl : (encRs tl).length = tl.length + 1 := by simp [encRs]
        rcases Nat.lt_or_ge i (tl.length + 1) with hlt | hge
        · obtain ⟨left, hx⟩ : ∃ left, ([] :: tl)[i]? = some left := ⟨_, List.getElem?_eq_getElem (by simpa using hlt)⟩
          obtain ⟨x, hxe, hxp, ox, nx, cx, hxs⟩ := encRs_at hx
          have hgl := hg _ (List.mem_of_getElem? hx)
          have hll := rest_len h60 (hT.sub _ (List.mem_of_getElem? hx))
          have hpo : outJ b (a.map (·.To)) (2000 - i) i ([] :: tl) = match inJ b left (a.map (·.To)) ([] :: tl) with | none => false | some todo' => outJ b (a.map (·.To)) (2000 - (i + 1)) (i + 1) todo' := by
            obtain ⟨f, hf⟩ : ∃ f, 2000 - i = f + 1 := ⟨1999 - i, by omega⟩
            have hf2 : 2000 - (i + 1) = f := by omega
            rw [hf, hf2, outJ, hx]
            rfl
          rw [hpo] at hp
          have hlp : 0 < (encRs tl).length := by omega
          simp -dsimp only [ho, h17, h15, h9, h0, h1, encT, hlt, hxe, hlp, ↓preB, postB, genB, ↓reduceIte, Nat.reduceEqDiff, Int.reduceToNat, Int.reduceLE, Int.reduceLT, Nat.reduceAdd, Nat.reduceLeDiff, intBin, strBin, unD, extractD, lit1, lit2, lit3, keptD, boxR, D.one, D.pub1, D.cells, splice, cutOwn]
          intro hb
          refine Fn.useP (Shifted_c b left hb1 hb2 (by omega) (by omega)) (by show [_, x.pub1] = _; rw [hxp]; rfl) ?_
          simp -dsimp only [ho, h17, h15, h9, h0, h1, encT, hlt, hxe, hlp, ↓preB, postB, genB, ↓reduceIte, Nat.reduceEqDiff, Int.reduceToNat, Int.reduceLE, Int.reduceLT, Nat.reduceAdd, Nat.reduceLeDiff, intBin, strBin, unD, extractD, lit1, lit2, lit3, keptD, boxR, D.one, D.pub1, D.cells, splice, cutOwn]
          refine pwp_loopG (fun (y : Nat × List Wd) env s => (ReHeap σ m y.2 (env 16) s ∧ y.1 ≤ a.length ∧ i < y.2.length + 1 ∧ TodoJ b ([] :: y.2) ∧ (∀ w ∈ [] :: y.2, goodX w) ∧ ([] :: y.2)[i]? = some left ∧ inJ b left ((a.map (·.To)).drop y.1) ([] :: y.2) = inJ b left (a.map (·.To)) ([] :: tl)) ∧ env 21 = .int .i64 (y.1 : Nat) ∧ env 18 = encSS (shiftW b left).1 ∧ env 17 = .int .i64 (i : Nat) ∧ env 15 = .map m ∧ env 9 = .sl o9 a.length (rowsD (joinT a b)) ∧ env 0 = encT a ∧ env 1 = encT b) (fun y => a.length - y.1) (0, tl) ?_ ?_
          · simp only [upd_apply, h17, h15, h9, h0, h1, encT, Nat.reduceEqDiff, if_true, if_false]
            exact ⟨⟨hJ, Nat.zero_le _, hlt, hT, hg, hx, by rw [List.drop_zero]⟩, by simp⟩
          · clear hJ hi hT hg hlt hlp hlen ho h17 h15 h9 h0 h1 hx hxe hxp hxs hrl x o
            rintro ⟨k, td⟩ env s ⟨⟨hJ, hk, hi, hT, hg, hx, hq⟩, h21, h18, h17, h15, h9, h0, h1⟩
            simp only at hJ hk hi hT hg hx hq h21
            have hlen := hT.len h60 hb3
            rw [List.length_cons] at hlen
            obtain ⟨o, ho⟩ : ∃ o, env 16 = .sl o (td.length + 1) (encRs td) := by
              obtain ⟨_, _, _, hA⟩ := hJ
              exact hA.is
            have hrl : (encRs td).length = td.length + 1 := by simp [encRs]
            rcases Nat.lt_or_ge k a.length with hkl | hkl
            · obtain ⟨x, hxe, hxp, ox, nx, cx, hxs⟩ := encRs_at hx
              have hd := rowsD_at hkl
              have hpos : 0 < (rowsD a).length := by rw [rowsD_len]; omega
              have hd2 := rowsD_at (t := joinT a b) (k := k) (by rw [hjl]; exact hkl)
              have hpos2 : 0 < (rowsD (joinT a b)).length := by rw [rowsD_len, hjl]; omega
              have hjk : ((joinT a b)[k]'(by rw [hjl]; exact hkl)).To = (shiftW b a[k].To).1 := by simp [joinT]
              rw [hjk] at hd2
              have hak := List.getElem_mem hkl
              have hga := hgx _ hak
              have h8 := ha2 _ hak
              rw [List.drop_eq_getElem_cons (by simpa using hkl), inJ, List.getElem_map] at hq
              generalize a[k] = r at hd hd2 hak hga h8 hq ⊢
              have hgn := nextJ_goodX hb1 hgl hga
              have hnok := nextJ_ok hb1 left r.To
              have hnl := rest_len h60 hnok
              have hlw : (left ++ r.To).length ≤ 120 := by rw [List.length_append]; omega
              have b1 := shiftW_le hb1 hb2 left
              have b2 := shiftW_le hb1 hb2 r.To
              have b3 := shiftW_le hb1 hb2 (nextJ b left r.To)
              have b4 := fedW_le hb1 hb2 (left ++ r.To)
              have hlp : 0 < (encRs td).length := by omega
              simp -dsimp only [ho, h21, h18, h17, h15, h9, h0, h1, encT, hkl, hi, hxe, hlp, hd, hpos, ↓preB, postB, genB, ↓reduceIte, Nat.reduceEqDiff, Int.reduceToNat, Int.reduceLE, Int.reduceLT, Nat.reduceAdd, Nat.reduceLeDiff, intBin, strBin, unD, extractD, lit1, lit2, lit3, keptD, boxR, D.one, D.pub1, D.cells, splice, cutOwn]
              intro _
              refine draw_s ?_
              simp -dsimp only [ho, h21, h18, h17, h15, h9, h0, h1, encT, hkl, hi, hxe, hlp, hd, hpos, ↓preB, postB, genB, ↓reduceIte, Nat.reduceEqDiff, Int.reduceToNat, Int.reduceLE, Int.reduceLT, Nat.reduceAdd, Nat.reduceLeDiff, intBin, strBin, unD, extractD, lit1, lit2, lit3, keptD, boxR, D.one, D.pub1, D.cells, splice, cutOwn]
              refine Fn.useSP (refJoinW_c left r.To (by omega) (by omega)) (by show [x.pub1, _] = _; rw [hxp]; rfl) ?_
              simp -dsimp only [ho, h21, h18, h17, h15, h9, h0, h1, encT, hkl, hi, hxe, hlp, hd, hpos, ↓preB, postB, genB, ↓reduceIte, Nat.reduceEqDiff, Int.reduceToNat, Int.reduceLE, Int.reduceLT, Nat.reduceAdd, Nat.reduceLeDiff, intBin, strBin, unD, extractD, lit1, lit2, lit3, keptD, boxR, D.one, D.pub1, D.cells, splice, cutOwn]
              refine Fn.useS (flow_c b (left ++ r.To) hb1 hb2 (by omega)) ?_
              simp -dsimp only [ho, h21, h18, h17, h15, h9, h0, h1, encT, hkl, hi, hxe, hlp, hd, hpos, ↓preB, postB, genB, ↓reduceIte, Nat.reduceEqDiff, Int.reduceToNat, Int.reduceLE, Int.reduceLT, Nat.reduceAdd, Nat.reduceLeDiff, intBin, strBin, unD, extractD, lit1, lit2, lit3, keptD, boxR, D.one, D.pub1, D.cells, splice, cutOwn]
              refine Fn.use (Shifted_c b (nextJ b left r.To) hb1 hb2 (by omega) (by omega)) ?_
              simp -dsimp only [ho, h21, h18, h17, h15, h9, h0, h1, encT, hkl, hi, hxe, hlp, hd, hpos, hd2, hpos2, ↓preB, postB, genB, ↓reduceIte, Nat.reduceEqDiff, Int.reduceToNat, Int.reduceLE, Int.reduceLT, Nat.reduceAdd, Nat.reduceLeDiff, intBin, strBin, unD, extractD, lit1, lit2, lit3, keptD, boxR, D.one, D.pub1, D.cells, splice, cutOwn]
              refine Fn.use (refJoinW_c (shiftW b left).1 (shiftW b r.To).1 (by omega) (by omega)) ?_
              simp -dsimp only [ho, h21, h18, h17, h15, h9, h0, h1, encT, hkl, hi, hxe, hlp, hd, hpos, ↓preB, postB, genB, ↓reduceIte, Nat.reduceEqDiff, Int.reduceToNat, Int.reduceLE, Int.reduceLT, Nat.reduceAdd, Nat.reduceLeDiff, intBin, strBin, unD, extractD, lit1, lit2, lit3, keptD, boxR, D.one, D.pub1, D.cells, splice, cutOwn]
              refine Fn.use (refJoinW_c (fedW b (left ++ r.To)).1 (shiftW b (nextJ b left r.To)).1 (by omega) (by omega)) ?_
              simp -dsimp only [ho, h21, h18, h17, h15, h9, h0, h1, encT, hkl, hi, hxe, hlp, hd, hpos, ↓preB, postB, genB, ↓reduceIte, Nat.reduceEqDiff, Int.reduceToNat, Int.reduceLE, Int.reduceLT, Nat.reduceAdd, Nat.reduceLeDiff, intBin, strBin, unD, extractD, lit1, lit2, lit3, keptD, boxR, D.one, D.pub1, D.cells, splice, cutOwn]
              refine Fn.use (Same_c _ _) ?_
              have hst : eqW ((shiftW b left).1 ++ (shiftW b r.To).1) ((fedW b (left ++ r.To)).1 ++ (shiftW b (nextJ b left r.To)).1) = stepJ b left r.To := rfl
              rw [hst]
              cases hs : stepJ b left r.To with
              | false =>
                rw [if_neg (by rw [hs]; decide)] at hq
                rw [← hq] at hp
                simp -dsimp only [ho, h21, h18, h17, h15, h9, h0, h1, encT, ↓preB, postB, genB, ↓reduceIte, Nat.reduceEqDiff, Int.reduceToNat, Int.reduceLE, Int.reduceLT, Nat.reduceAdd, Nat.reduceLeDiff, intBin, strBin, unD, extractD, lit1, lit2, lit3, keptD, boxR, D.one, D.pub1, D.cells, splice, cutOwn]
                rw [hout, if_neg (by rw [← hp]; exact Bool.false_ne_true)]
                exact Ret.less (hJ.le hcl hn0) hcl (.tup3 told_nilT (.refl _) (.refl _)) (bel_encJ ([], false, 0))
              | true =>
                rw [if_pos hs] at hq
                simp -dsimp only [ho, h21, h18, h17, h15, h9, h0, h1, encT, ↓preB, postB, genB, ↓reduceIte, Nat.reduceEqDiff, Int.reduceToNat, Int.reduceLE, Int.reduceLT, Nat.reduceAdd, Nat.reduceLeDiff, intBin, strBin, unD, extractD, lit1, lit2, lit3, keptD, boxR, D.one, D.pub1, D.cells, splice, cutOwn]
                refine Fn.use (Written_c (nextJ b left r.To) hgn.1 (by omega)) ?_
                simp -dsimp only [ho, h21, h18, h17, h15, h9, h0, h1, encT, hJ.look, ↓preB, postB, genB, ↓reduceIte, Nat.reduceEqDiff, Int.reduceToNat, Int.reduceLE, Int.reduceLT, Nat.reduceAdd, Nat.reduceLeDiff, intBin, strBin, unD, extractD, lit1, lit2, lit3, keptD, boxR, D.one, D.pub1, D.cells, splice, cutOwn]
                by_cases hm : nextJ b left r.To ∈ [] :: td
                · rw [seenX_in hm]
                  have ha : addJ ([] :: td) (nextJ b left r.To) = [] :: td := by unfold addJ; rw [if_pos (anyEq.2 hm)]
                  rw [ha] at hq
                  simp -dsimp only [ho, h21, h18, h17, h15, h9, h0, h1, encT, Option.getD_some, Option.map_some, Bool.not_true, ↓preB, postB, genB, ↓reduceIte, Nat.reduceEqDiff, Int.reduceToNat, Int.reduceLE, Int.reduceLT, Nat.reduceAdd, Nat.reduceLeDiff, intBin, strBin, unD, extractD, lit1, lit2, lit3, keptD, boxR, D.one, D.pub1, D.cells, splice, cutOwn]
                  exact ⟨(k + 1, td), ⟨⟨by rw [← ho]; exact hJ, by simp only []; omega, hi, hT, hg, hx, hq⟩, wrap64_succ (by simp only [big]; omega)⟩, by simp only []; omega⟩
                · rw [seenX_out hg hgn hm]
                  have ha : addJ ([] :: td) (nextJ b left r.To) = [] :: (td ++ [nextJ b left r.To]) := by unfold addJ; rw [if_neg fun h => hm (anyEq.1 h)]; rfl
                  rw [ha] at hq
                  simp -dsimp only [ho, h21, h18, h17, h15, h9, h0, h1, encT, Option.getD_none, Option.map_none, Bool.not_false, ↓preB, postB, genB, ↓reduceIte, Nat.reduceEqDiff, Int.reduceToNat, Int.reduceLE, Int.reduceLT, Nat.reduceAdd, Nat.reduceLeDiff, intBin, strBin, unD, extractD, lit1, lit2, lit3, keptD, boxR, D.one, D.pub1, D.cells, splice, cutOwn]
                  obtain ⟨es2, clk2, hm2, hA⟩ := hJ
                  rw [ho] at hA
                  refine mapUpdate_go (encv := D.bool) keyStr tz60 rfl (hA.le.get _ _ baseM_map) hm2 (writB (nextJ b left r.To)) true fun es3 clk3 hm3 => ?_
                  rw [seenX_add hg hgn hm] at hm3
                  have hc2 : Closed (baseM σ m es2 clk2) := baseM_closed hcl hn0 fun N => mapIs_bel hm2 fun v => .bool v
                  have hc3 : Closed (baseM σ m es3 clk3) := baseM_closed hcl hn0 fun N => mapIs_bel hm3 fun v => .bool v
                  have hA2 := (hA.set (x := .map es3 clk3) hc2 baseM_map).2
                  rw [baseM_set] at hA2
                  simp -dsimp only [ho, h21, h18, h17, h15, h9, h0, h1, encT, encSS, ↓preB, postB, genB, ↓reduceIte, Nat.reduceEqDiff, Int.reduceToNat, Int.reduceLE, Int.reduceLT, Nat.reduceAdd, Nat.reduceLeDiff, intBin, strBin, unD, extractD, lit1, lit2, lit3, keptD, boxR, D.one, D.pub1, D.cells, splice, cutOwn]
                  refine hA2.append (m := 1) (ys := [encSS (nextJ b left r.To)]) hc3 tz49 rfl tz29 rfl rfl rfl (by decide) (by simp [hrl]) (fedBy_sl tz49 rfl rfl) (by simp only []; omega) (by simp only [big]; omega) fun d' s' hA' => ?_
                  simp -dsimp only [ho, h21, h18, h17, h15, h9, h0, h1, encT, encSS, ↓preB, postB, genB, ↓reduceIte, Nat.reduceEqDiff, Int.reduceToNat, Int.reduceLE, Int.reduceLT, Nat.reduceAdd, Nat.reduceLeDiff, intBin, strBin, unD, extractD, lit1, lit2, lit3, keptD, boxR, D.one, D.pub1, D.cells, splice, cutOwn]
                  have hT' := hT.add hnok
                  rw [ha] at hT'
                  refine ⟨(k + 1, td ++ [nextJ b left r.To]), ⟨⟨⟨es3, clk3, hm3, ?_⟩, by simp only []; omega, by simp only [List.length_append]; omega, hT', fun w hw => ?_, ?_, hq⟩, wrap64_succ (by simp only [big]; omega)⟩, by simp only []; omega⟩
                  · have e1 : encRs (td ++ [nextJ b left r.To]) = encRs td ++ [encSS (nextJ b left r.To)] := by simp [encRs]
                    rw [e1]
                    simpa [Nat.add_assoc, Nat.add_comm 1] using hA'
                  · rw [← List.cons_append] at hw
                    rcases List.mem_append.1 hw with hw | hw
                    · exact hg w hw
                    · simp at hw; subst hw; exact hgn
                  · rw [← List.cons_append, List.getElem?_append_left (by simp only [List.length_cons]; omega)]
                    exact hx
            · have hkl : k = a.length := by omega
              subst hkl
              rw [List.drop_of_length_le (by simp), inJ] at hq
              rw [← hq] at hp
              simp -dsimp only [ho, h21, h18, h17, h15, h9, h0, h1, encT, Nat.lt_irrefl, ↓preB, postB, genB, ↓reduceIte, Nat.reduceEqDiff, Int.reduceToNat, Int.reduceLE, Int.reduceLT, Nat.reduceAdd, Nat.reduceLeDiff, intBin, strBin, unD, extractD, lit1, lit2, lit3, keptD, boxR, D.one, D.pub1, D.cells, splice, cutOwn]
              intro _
              exact ⟨(i + 1, td), ⟨⟨by rw [← ho]; exact hJ, by simp only []; omega, hT, hg, hp⟩, wrap64_succ (by simp only [big]; omega)⟩, by simp only []; omega⟩
        · have hil : i = tl.length + 1 := by omega
          subst hil
          have hz : outJ b (a.map (·.To)) (2000 - (tl.length + 1)) (tl.length + 1) ([] :: tl) = true := by
            cases h : 2000 - (tl.length + 1) with
            | zero => rfl
            | succ f => rw [outJ, List.getElem?_eq_none (by simp)]
          rw [hz] at hp
          simp -dsimp only [ho, h17, h15, h9, h0, h1, encT, Nat.lt_irrefl, ↓preB, postB, genB, ↓reduceIte, Nat.reduceEqDiff, Int.reduceToNat, Int.reduceLE, Int.reduceLT, Nat.reduceAdd, Nat.reduceLeDiff, intBin, strBin, unD, extractD, lit1, lit2, lit3, keptD, boxR, D.one, D.pub1, D.cells, splice, cutOwn]
          intro _
          rw [hout, if_pos hp.symm]
          refine Ret.less (hJ.le hcl hn0) hcl (.tup3 ?_ (.refl _) (.refl _)) (bel_encJ (joinT a b, true, 0))
          rw [encT, hjl]
          exact .pub1 _ _ _
end Go.Proofs.YtldlcejlfaogbaaDoor.Vs
