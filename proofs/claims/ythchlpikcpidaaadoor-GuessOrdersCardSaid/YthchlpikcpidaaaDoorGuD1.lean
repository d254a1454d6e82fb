import Derived.Test.YthchlpikcpidaaaDoorGuC1
/- numbers of Ythchlpikcpidaaa -/
namespace Go.Proofs.YthchlpikcpidaaaDoor.Vs
set_option linter.unusedVariables false
set_option linter.unusedSimpArgs false
set_option maxRecDepth 20000
theorem keyB_nil : keyB [] sp = noB := by rfl
theorem isEnd_suf {e w : Wd} (h : isEnd e w = true) : e.length ≤ w.length ∧ e = suf w e.length := by
  simp only [isEnd, Bool.and_eq_true, decide_eq_true_eq] at h
  exact ⟨h.1, (eqW_iff.1 h.2).symm⟩
theorem suf_isEnd {w : Wd} {k : Nat} (h : k ≤ w.length) : isEnd (suf w k) w = true := by
  simp only [isEnd, Bool.and_eq_true, decide_eq_true_eq]
  have := suf_len h
  refine ⟨by omega, eqW_iff.2 ?_⟩
  rw [this]; rfl
theorem addAt_val (f : ByteArray → Int) (k : ByteArray) (n : Int) (t : ByteArray) : addAt f k n t = f t + if t = k then n else 0 := by
  unfold addAt; split <;> simp
def two (tag t : ByteArray) (n : Int) : Int := (if t = tag then n else 0) + if t = noB then n else 0
theorem putF_val {cf : CF} {w : Wd} {tag : ByteArray} {n : Int} (hw : goodW w) {e : Wd} (he : goodW e) (t : ByteArray) : ∀ k, k ≤ w.length + 1 → putF cf w tag n k (keyB e sp) t = cf (keyB e sp) t + if e.length < k ∧ isEnd e w = true then two tag t n else 0
  | 0, _ => by simp [putF]
  | k + 1, hk => by
    have ih := putF_val (cf := cf) (tag := tag) (n := n) hw he t k (by omega)
    simp only [putF, stepF]
    by_cases hs : e = suf w k
    · have hl := suf_len (show k ≤ w.length by omega)
      subst hs
      have h1 : isEnd (suf w k) w = true := suf_isEnd (by omega)
      have q1 : ¬ ((suf w k).length < k ∧ isEnd (suf w k) w = true) := fun h => by omega
      have q2 : (suf w k).length < k + 1 ∧ isEnd (suf w k) w = true := ⟨by omega, h1⟩
      rw [if_pos rfl, addAt_val, addAt_val, ih, if_neg q1, if_pos q2, two]
      omega
    · have hne : keyB e sp ≠ keyB (suf w k) sp := fun h => hs (keyB_inj he (hw.drop _) h)
      rw [if_neg hne, ih]
      congr 1
      by_cases h1 : e.length < k ∧ isEnd e w = true
      · rw [if_pos h1, if_pos ⟨by omega, h1.2⟩]
      · rw [if_neg h1, if_neg]
        rintro ⟨a, b⟩
        obtain ⟨c1, c2⟩ := isEnd_suf b
        have : ¬ e.length < k := fun h => h1 ⟨h, b⟩
        have : e.length = k := by omega
        rw [this] at c2
        exact hs c2
theorem putF_out {cf : CF} {w : Wd} {tag : ByteArray} {n : Int} (hw : goodW w) {e : ByteArray} (he : ¬ ∃ v, goodW v ∧ v.length ≤ 4 ∧ keyB v sp = e) (t : ByteArray) : ∀ k, k ≤ min w.length 4 + 1 → putF cf w tag n k e t = cf e t
  | 0, _ => rfl
  | k + 1, hk => by
    simp only [putF, stepF]
    have hl := suf_len (show k ≤ w.length by omega)
    rw [if_neg fun h => he ⟨suf w k, hw.drop _, by omega, h.symm⟩]
    exact putF_out hw he t k (by omega)
def mfL (l : List Smp) : ByteArray × ByteArray → Int := l.foldl (fun mf x => addAt mf (keyB x.word sp, x.tag) x.many) fun _ => 0
def cfL (l : List Smp) : CF := l.foldl (fun cf x => putF cf x.word x.tag x.many (min x.word.length 4 + 1)) fun _ _ => 0
theorem mfL_snoc (l : List Smp) (x : Smp) : mfL (l ++ [x]) = addAt (mfL l) (keyB x.word sp, x.tag) x.many := by simp [mfL]
theorem cfL_snoc (l : List Smp) (x : Smp) : cfL (l ++ [x]) = putF (cfL l) x.word x.tag x.many (min x.word.length 4 + 1) := by simp [cfL]
theorem snoc_ind {P : List Smp → Prop} (h0 : P []) (h1 : ∀ l x, P l → P (l ++ [x])) (l : List Smp) : P l := by
  have : ∀ n (l : List Smp), l.length = n → P l := fun n => by
    induction n with
    | zero => intro l hl; rw [List.eq_nil_of_length_eq_zero hl]; exact h0
    | succ n ih =>
      intro l hl
      rcases List.eq_nil_or_concat l with rfl | ⟨l', x, rfl⟩
      · exact h0
      · rw [List.concat_eq_append] at hl ⊢
        exact h1 _ _ (ih l' (by simpa using hl))
  exact this _ l rfl
theorem nm_ne {s : ByteArray} (h : isNm s = true) : s ≠ noB := fun e => by subst e; revert h; decide
theorem one_two {x : Smp} (ht : x.tag ≠ noB) (e : Wd) (t : ByteArray) : one e t x = if isEnd e x.word = true then two x.tag t x.many else 0 := by
  unfold one hit
  rw [ba_dec, ba_dec]
  by_cases h1 : isEnd e x.word = true
  · rw [h1, if_pos rfl]
    unfold two
    by_cases h2 : t = noB
    · have h3 : ¬ t = x.tag := fun e => ht (e ▸ h2)
      simp [h2, Ne.symm ht]
    · by_cases h3 : t = x.tag <;> simp [h2, h3, ht]
  · simp [h1]
theorem cfL_val {l : List Smp} (hl : ∀ x ∈ l, fineS x) {e : Wd} (he : goodW e) (h4 : e.length ≤ 4) (t : ByteArray) : cfL l (keyB e sp) t = cnt l e t := by
  revert hl
  refine snoc_ind (P := fun l => (∀ x ∈ l, fineS x) → cfL l (keyB e sp) t = cnt l e t) (fun _ => rfl) (fun l x ih hl => ?_) l
  have hx := hl x (by simp)
  have hw := badW_good hx.1
  rw [cfL_snoc, cnt_append, cnt_one, putF_val hw he t _ (by omega), ih fun y hy => hl y (by simp [hy]), one_two (nm_ne hx.2.1)]
  congr 1
  by_cases h : isEnd e x.word = true
  · have := (isEnd_suf h).1
    rw [if_pos ⟨by omega, h⟩, if_pos h]
  · rw [if_neg (fun h' => h h'.2), if_neg h]
theorem cfL_out {l : List Smp} (hl : ∀ x ∈ l, fineS x) {e : ByteArray} (he : ¬ ∃ v, goodW v ∧ v.length ≤ 4 ∧ keyB v sp = e) (t : ByteArray) : cfL l e t = 0 := by
  revert hl
  refine snoc_ind (P := fun l => (∀ x ∈ l, fineS x) → cfL l e t = 0) (fun _ => rfl) (fun l x ih hl => ?_) l
  have hx := hl x (by simp)
  rw [cfL_snoc, putF_out (badW_good hx.1) he t _ (Nat.le_refl _)]
  exact ih fun y hy => hl y (by simp [hy])
/-- What is known of the counts of endings. -/
def Nice (cf : CF) : Prop := ∀ e t, 0 ≤ cf e t ∧ cf e t ≤ cf e noB ∧ cf e noB ≤ 1000
theorem cfL_nice {l : List Smp} (hl : ∀ x ∈ l, fineS x) (ht : tot l ≤ 1000) : Nice (cfL l) := fun e t => by
  have hF : Fine l := ⟨fun x hx => (hl x hx).2.2, ht⟩
  by_cases h : ∃ v, goodW v ∧ v.length ≤ 4 ∧ keyB v sp = e
  · obtain ⟨v, h1, h2, rfl⟩ := h
    rw [cfL_val hl h1 h2, cfL_val hl h1 h2]
    exact ⟨(hF.le v t).1, cnt_le hF.1 fun x _ hx => (hit_less hx).2, (hF.le v noB).2⟩
  · rw [cfL_out hl h, cfL_out hl h]; decide
theorem mfL_bound {l : List Smp} (hl : ∀ x ∈ l, fineS x) (k : ByteArray × ByteArray) : 0 ≤ mfL l k ∧ mfL l k ≤ tot l := by
  revert hl
  refine snoc_ind (P := fun l => (∀ x ∈ l, fineS x) → 0 ≤ mfL l k ∧ mfL l k ≤ tot l) (fun _ => ⟨Int.le_refl _, Int.le_refl _⟩) (fun l x ih hl => ?_) l
  have hx := (hl x (by simp)).2.2
  have ih := ih fun y hy => hl y (by simp [hy])
  rw [mfL_snoc, tot, cnt_append, cnt_one, one_all]
  have : cnt l [] noB = tot l := rfl
  unfold addAt
  split <;> omega

theorem badS_ok {l : List Smp} (h : badS l = 0) : (∀ x ∈ l, fineS x) ∧ tot l ≤ 1000 := by
  have h1 := badS_fine h
  refine ⟨h1, ?_⟩
  have h2 : sumE l 0 = 0 := by
    unfold badS at h
    split at h
    · rename_i h3; exact absurd h h3
    · split at h
      · cases h
      · exact h
  have := (sumE_tot (fun x hx => (h1 x hx).2.2) (Int.le_refl 0) (by decide)).1 h2
  omega

theorem new_c (l : List Smp) (σ : Heap) : PCall Zs 6 [encS l] σ (fun d τ => HLe σ τ ∧ ((newE l ≠ 0 ∧ d = .tup [.nilptr, .int .i64 (newE l)]) ∨ (newE l = 0 ∧ ∃ q, d = .tup [.ptr q 0, .int .i64 0] ∧ PG σ (mfL l) (cfL l) q τ))) := by
  refine pcall_of (Z := Zs) ok6 fun hcl hbl => ?_
  simp -dsimp only [L6, encS, ↓preB, postB, genB, ↓reduceIte, Nat.reduceEqDiff, Int.reduceToNat, Int.reduceLE, Int.reduceLT, Nat.reduceAdd, Nat.reduceLeDiff, intBin, strBin, unD, extractD, lit1, lit2, lit3, keptD, boxR, D.one, D.pub1, D.cells, splice, cutOwn]
  intro hbig
  by_cases c0 : (200 : Int) < l.length
  · have e1 : newE l = 3 := by rw [newE, if_pos (by omega)]
    simp -dsimp only [c0, ↓preB, postB, genB, ↓reduceIte, Nat.reduceEqDiff, Int.reduceToNat, Int.reduceLE, Int.reduceLT, Nat.reduceAdd, Nat.reduceLeDiff, intBin, strBin, unD, extractD, lit1, lit2, lit3, keptD, boxR, D.one, D.pub1, D.cells, splice, cutOwn]
    exact Ret.now (Nat.le_refl _) ⟨HLe.refl _, .inl ⟨by rw [e1]; decide, by rw [e1]⟩⟩
  simp -dsimp only [c0, ↓preB, postB, genB, ↓reduceIte, Nat.reduceEqDiff, Int.reduceToNat, Int.reduceLE, Int.reduceLT, Nat.reduceAdd, Nat.reduceLeDiff, intBin, strBin, unD, extractD, lit1, lit2, lit3, keptD, boxR, D.one, D.pub1, D.cells, splice, cutOwn]
  have hnew : newE l = badS l := by rw [newE, if_neg (by omega)]
  refine Fn.use (checked_c l) ?_
  by_cases c1 : badS l = 0
  · have c1' : (badS l != 0) = false := by simpa using c1
    obtain ⟨hfine, htot⟩ := badS_ok c1
    have hpos1 : ∀ x ∈ l, 1 ≤ x.many := fun x hx => (hfine x hx).2.2
    have bt56 : ∀ a b, aBuilt Zs 43 [(0, .map a), (1, .map b)] = some [.map a, .map b] := fun _ _ => by rfl
    simp -dsimp only [c1', bt56, hbig, ↓preB, postB, genB, ↓reduceIte, Nat.reduceEqDiff, Int.reduceToNat, Int.reduceLE, Int.reduceLT, Nat.reduceAdd, Nat.reduceLeDiff, intBin, strBin, unD, extractD, lit1, lit2, lit3, keptD, boxR, D.one, D.pub1, D.cells, splice, cutOwn]
    have hinit : PGx σ (((σ.new (.map [] 0)).new (.map [] 0)).new (.cells 43 [.map σ.next, .map (σ.next + 1)])) (σ.next + 2) σ.next (σ.next + 1) [] [] (fun _ => []) := by
      have n0 := hcl.none (Nat.le_refl σ.next)
      have n1 := hcl.none (show σ.next ≤ σ.next + 1 by omega)
      have n2 := hcl.none (show σ.next ≤ σ.next + 2 by omega)
      refine ⟨((HLe.self_new _ hcl).new _ hcl.lt).new _ hcl.lt, n2, n0, n1, by omega, by omega, by omega, ?_, ?_, ?_, ?_, ⟨[], 0, ?_, .nil⟩, ⟨[], 0, ?_, .nil⟩, fun p hp => (by cases hp), by simp, by simp⟩
      · simp [Heap.next_new]
      · simp [Heap.next_new]; omega
      · simp [Heap.next_new]
      · simp [Heap.new, Heap.next_new]
      · simp [Heap.new]; omega
      · simp [Heap.new]
    refine pwp_loopG (fun k env s => k ≤ l.length ∧ PG σ (mfL (l.take k)) (cfL (l.take k)) (σ.next + 2) s ∧ env 22 = .int .i64 (k:Nat) ∧ env 21 = .int .i64 l.length ∧ env 20 = encS l ∧ env 5 = .ptr (σ.next + 2) 0) (fun k => l.length - k) 0 ?_ ?_
    · have hPG0 : PG σ (mfL (l.take 0)) (cfL (l.take 0)) (σ.next + 2) (((σ.new (.map [] 0)).new (.map [] 0)).new (.cells 43 [.map σ.next, .map (σ.next + 1)])) :=
        ⟨_, _, [], [], fun _ => [], hinit, Cnt.nil, fun e => ⟨fun _ _ => rfl, fun h => absurd rfl h⟩⟩
      simp only [upd_apply, envOf_apply, Nat.reduceEqDiff, if_true, if_false]
      exact ⟨Nat.zero_le _, hPG0, by first | rfl | trivial, by first | rfl | trivial, by first | rfl | trivial, by first | rfl | trivial⟩
    · rintro k env s ⟨hk, hPG, h22, h21, h20, h5⟩
      rcases Nat.lt_or_ge k l.length with hlt | hge
      · have hd := cellsS_at hlt
        have hposc := cellsS_pos hlt
        have hfk := hfine _ (List.getElem_mem hlt)
        have hmk : l[k].many ≤ 1000 := by
          have h1 := tot_take hlt
          have h2 : tot (l.take (k + 1)) ≤ tot l := by
            have := (Fine.take ⟨hpos1, htot⟩ (k + 1)).2
            have h3 := cnt_append (l.take (k + 1)) (l.drop (k + 1)) [] noB
            rw [List.take_append_drop] at h3
            have h4 : 0 ≤ cnt (l.drop (k + 1)) [] noB := cnt_nonneg _ _ fun x hx => hpos1 x (List.mem_of_mem_drop hx)
            unfold tot; omega
          have h3 : 0 ≤ tot (l.take k) := cnt_nonneg _ _ fun x hx => hpos1 x (List.mem_of_mem_take hx)
          omega
        have hfk' : ∀ x ∈ l.take k, fineS x := fun x hx => hfine x (List.mem_of_mem_take hx)
        have htk : tot (l.take k) ≤ 1000 := (Fine.take ⟨hpos1, htot⟩ k).2
        have hnice := cfL_nice hfk' htk
        obtain ⟨r1, r2, M, E, A, hP, hM, hA⟩ := hPG
        have hPn := (hP.ext (.cells 25 [encSS l[k].word, .str l[k].tag, .int .i64 l[k].many])).low (ext0_le hP.le hcl.lt _)
        have hPGn : PG σ (mfL (l.take k)) (cfL (l.take k)) (σ.next + 2) (s.new (.cells 25 [encSS l[k].word, .str l[k].tag, .int .i64 l[k].many])) := ⟨r1, r2, M, E, A, hPn, hM, hA⟩
        simp -dsimp only [h22, h21, h20, h5, encS, hlt, hd, hposc, hbig, ↓preB, postB, genB, ↓reduceIte, Nat.reduceEqDiff, Int.reduceToNat, Int.reduceLE, Int.reduceLT, Nat.reduceAdd, Nat.reduceLeDiff, intBin, strBin, unD, extractD, lit1, lit2, lit3, keptD, boxR, D.one, D.pub1, D.cells, splice, cutOwn]
        refine PCall.use (put_c l[k] l[k].many (mfL (l.take k)) (cfL (l.take k)) (σ.next + 2) (badW_good hfk.1) ⟨by have := hfk.2.2; omega, hmk⟩ (fun kk => by have := mfL_bound hfk' kk; omega) (fun e t => by have := hnice e t; omega) σ _ hcl.lt hPGn) ?_
        intro d τ hτ
        simp -dsimp only [h22, h21, h20, h5, encS, hlt, hd, hposc, hbig, ↓preB, postB, genB, ↓reduceIte, Nat.reduceEqDiff, Int.reduceToNat, Int.reduceLE, Int.reduceLT, Nat.reduceAdd, Nat.reduceLeDiff, intBin, strBin, unD, extractD, lit1, lit2, lit3, keptD, boxR, D.one, D.pub1, D.cells, splice, cutOwn]
        refine ⟨k + 1, ⟨by omega, ?_, wrap64_succ (by omega)⟩, by omega⟩
        rw [take_snoc hlt, mfL_snoc, cfL_snoc]
        exact hτ
      · rw [List.take_of_length_le hge] at hPG
        have e1 : newE l = 0 := by rw [hnew, c1]
        simp -dsimp only [h22, h21, h20, h5, encS, Nat.not_lt.2 hge, hbig, ↓preB, postB, genB, ↓reduceIte, Nat.reduceEqDiff, Int.reduceToNat, Int.reduceLE, Int.reduceLT, Nat.reduceAdd, Nat.reduceLeDiff, intBin, strBin, unD, extractD, lit1, lit2, lit3, keptD, boxR, D.one, D.pub1, D.cells, splice, cutOwn]
        have hle : HLe σ s := by obtain ⟨_, _, _, _, _, hP, _⟩ := hPG; exact hP.le
        exact Ret.now hle.next ⟨hle, .inr ⟨e1, _, rfl, hPG⟩⟩
  · have c1' : (badS l != 0) = true := by simpa using c1
    simp -dsimp only [c1', ↓preB, postB, genB, ↓reduceIte, Nat.reduceEqDiff, Int.reduceToNat, Int.reduceLE, Int.reduceLT, Nat.reduceAdd, Nat.reduceLeDiff, intBin, strBin, unD, extractD, lit1, lit2, lit3, keptD, boxR, D.one, D.pub1, D.cells, splice, cutOwn]
    exact Ret.now (Nat.le_refl _) ⟨HLe.refl _, .inl ⟨by rw [hnew]; exact c1, by rw [hnew]⟩⟩
end Go.Proofs.YthchlpikcpidaaaDoor.Vs

/- numbers of Ythchlpikcpidaaa -/
namespace Go.Proofs.YthchlpikcpidaaaDoor.Vs
set_option linter.unusedVariables false
set_option linter.unusedSimpArgs false
set_option maxRecDepth 20000
theorem PGA.cnt0 {E : EL} {A : AF} {cf : CF} (h : PGA E A cf) {e : ByteArray} (he : lkp E e = none) (t : ByteArray) : cf e t = 0 := (h e).1 he t
theorem PGA.val {E : EL} {A : AF} {cf : CF} (h : PGA E A cf) {e : ByteArray} {r : Nat} (he : lkp E e = some r) (t : ByteArray) : (lkp (A e) t).getD 0 = cf e t := ((h e).2 (by rw [he]; simp)).1.val t
theorem PGA.pos {E : EL} {A : AF} {cf : CF} (h : PGA E A cf) (hn : Nice cf) {e : ByteArray} {r : Nat} (he : lkp E e = some r) : cf e noB ≠ 0 := fun h0 => by
  obtain ⟨h1, h2⟩ := (h e).2 (by rw [he]; simp)
  refine h2 (h1.empty.2 fun t => ?_)
  have := hn e t
  omega
/-- What stands in the maps for an ending and a tag. -/
theorem PGx.two {σ0 σ : Heap} {q r1 r2 : Nat} {M : ML} {E : EL} {A : AF} {cf : CF} (h : PGx σ0 σ q r1 r2 M E A) (hA : PGA E A cf) (e t : ByteArray) :
    ∃ d, lookupD Zs σ.get 41 (.map r2) (.str e) false = some d ∧ lookupD Zs σ.get 57 d (.str t) false = some (.int .i64 (cf e t)) := by
  have h2 := h.lk2 e
  cases he : lkp E e with
  | none =>
    rw [he] at h2
    exact ⟨_, h2, by rw [lk_nil, hA.cnt0 he]⟩
  | some r =>
    rw [he] at h2
    exact ⟨_, h2, by rw [h.lk3 he, hA.val he]⟩

theorem all_c (q : Nat) (mf : ByteArray × ByteArray → Int) (cf : CF) (σ0 σ : Heap) (h : PG σ0 mf cf q σ) : PCall Zs 15 [.ptr q 0] σ (fun d τ => d = .int .i64 (cf noB noB) ∧ τ = σ) := by
  obtain ⟨r1, r2, M, E, A, hP, hM, hA⟩ := h
  obtain ⟨d, h1, h2⟩ := hP.two hA noB noB
  replace h1 : lookupD Zs σ.get 41 (.map r2) (.str ⟨#[]⟩) false = some d := h1
  replace h2 : lookupD Zs σ.get 57 d (.str ⟨#[]⟩) false = some (.int .i64 (cf noB noB)) := h2
  refine pcall_of (Z := Zs) ok15 fun hcl hbl => ?_
  simp -dsimp only [L15, hP.hq, h1, h2, ↓preB, postB, genB, ↓reduceIte, Nat.reduceEqDiff, Int.reduceToNat, Int.reduceLE, Int.reduceLT, Nat.reduceAdd, Nat.reduceLeDiff, intBin, strBin, unD, extractD, lit1, lit2, lit3, keptD, boxR, D.one, D.pub1, D.cells, splice, cutOwn]
  exact Ret.is rfl
theorem none_c (q : Nat) (mf : ByteArray × ByteArray → Int) (cf : CF) (σ0 σ : Heap) (h : PG σ0 mf cf q σ) : PCall Zs 24 [.ptr q 0] σ (fun d τ => d = .bool (cf noB noB == 0) ∧ τ = σ) := by
  refine pcall_of (Z := Zs) ok24 fun hcl hbl => ?_
  simp -dsimp only [L24, ↓preB, postB, genB, ↓reduceIte, Nat.reduceEqDiff, Int.reduceToNat, Int.reduceLE, Int.reduceLT, Nat.reduceAdd, Nat.reduceLeDiff, intBin, strBin, unD, extractD, lit1, lit2, lit3, keptD, boxR, D.one, D.pub1, D.cells, splice, cutOwn]
  refine PCall.use (all_c q mf cf σ0 σ h) ?_
  rintro _ _ ⟨rfl, rfl⟩
  simp -dsimp only [↓preB, postB, genB, ↓reduceIte, Nat.reduceEqDiff, Int.reduceToNat, Int.reduceLE, Int.reduceLT, Nat.reduceAdd, Nat.reduceLeDiff, intBin, strBin, unD, extractD, lit1, lit2, lit3, keptD, boxR, D.one, D.pub1, D.cells, splice, cutOwn]
  exact Ret.is rfl

theorem ares_cell {Z : Sys} {t a r off : Nat} {e : TypeId} {cs : List D} {d : D} {env : Env} {g : Nat → Option AO} {i : TInfo} (hT : Z.T t = some i) (ha : env a = .ptr r off) (hg : g r = some (.cells e cs)) (hp : pack i (cs.drop off) = some d) : ares Z [.cell a t] env g = some d := by
  simp only [ares, rvs, rv, hT, ha, hg, hp]
theorem pack65 (a b : Int) : ∀ i, Zs.T 59 = some i → pack i ([D.int .i64 a, .int .i64 b].drop 0) = some (.agg [.int .i64 a, .int .i64 b]) := fun i hi => by
  rw [tz59] at hi; cases hi; rfl
theorem bel_two (N : Nat) (a b : Int) : Bel N (.agg [.int .i64 a, .int .i64 b]) := .agg _ fun d hd => by
  simp only [List.mem_cons, List.not_mem_nil, or_false] at hd
  rcases hd with rfl | rfl <;> exact .int _ _
theorem least_c (n d : Int) (h0 : 0 ≤ n) (h1 : n ≤ d) (hd : 0 < d) (h2 : d ≤ 1005010010005001) : Fn Zs 26 [.agg [.int .i64 n, .int .i64 d]] (.agg [.int .i64 (leastV n d).1, .int .i64 (leastV n d).2]) := by
  refine fn_of (Z := Zs) ok26 fun σ hcl hbl => ?_
  simp -dsimp only [L26, ↓preB, postB, genB, ↓reduceIte, Nat.reduceEqDiff, Int.reduceToNat, Int.reduceLE, Int.reduceLT, Nat.reduceAdd, Nat.reduceLeDiff, intBin, strBin, unD, extractD, lit1, lit2, lit3, keptD, boxR, D.one, D.pub1, D.cells, splice, cutOwn]
  have hg := gcd_pos (a := n) hd
  have f0 : ∀ o, ((σ.new (.cells 59 [.int .i64 n, .int .i64 d])).new o).get σ.next = some (.cells 59 [.int .i64 n, .int .i64 d]) := fun o => by
    rw [Heap.new_ne _ _ (by rw [Heap.next_new]; omega), Heap.new_same]
  have hn1 : (σ.new (.cells 59 [.int .i64 n, .int .i64 d])).next = σ.next + 1 := rfl
  have hle : HLe σ ((σ.new (.cells 59 [.int .i64 n, .int .i64 d])).new (.cells 59 [.int .i64 0, .int .i64 0])) := (HLe.self_new _ hcl).new' _ hcl
  have f1 : ((σ.new (.cells 59 [.int .i64 n, .int .i64 d])).new (.cells 59 [.int .i64 0, .int .i64 0])).get (σ.next + 1) = some (.cells 59 [.int .i64 0, .int .i64 0]) := by
    rw [← hn1, Heap.new_same]
  obtain ⟨s2, hs2⟩ : ∃ s2, (σ.new (.cells 59 [.int .i64 n, .int .i64 d])).new (.cells 59 [.int .i64 0, .int .i64 0]) = s2 := ⟨_, rfl⟩
  have f2 := f0 (.cells 59 [.int .i64 0, .int .i64 0])
  rw [hs2] at hle f1 f2
  refine draw_s ?_
  simp -dsimp only [hs2, hn1, f2, ↓preB, postB, genB, ↓reduceIte, Nat.reduceEqDiff, Int.reduceToNat, Int.reduceLE, Int.reduceLT, Nat.reduceAdd, Nat.reduceLeDiff, intBin, strBin, unD, extractD, lit1, lit2, lit3, keptD, boxR, D.one, D.pub1, D.cells, splice, cutOwn]
  refine pwp_loopG (fun (x : Int × Int) env s => 0 ≤ x.1 ∧ 0 ≤ x.2 ∧ gcdI x.1 x.2 = gcdI n d ∧ s = s2 ∧ env 3 = .int .i64 x.1 ∧ env 4 = .int .i64 x.2 ∧ env 1 = .ptr σ.next 0 ∧ env 2 = .ptr (σ.next + 1) 0) (fun x => x.2.toNat) (n, d) ?_ ?_
  · simp only [upd_apply, envOf_apply, Nat.reduceEqDiff, if_true, if_false]
    exact ⟨h0, by omega, by first | rfl | trivial, by first | rfl | trivial | exact hs2, by first | rfl | trivial, by first | rfl | trivial, by first | rfl | trivial, by first | rfl | trivial⟩
  · rintro ⟨x, y⟩ env s ⟨hx, hy, hp, rfl, h3, h4, e1, e2⟩
    simp only at hx hy hp h3 h4
    by_cases c2 : y = 0
    · subst c2
      rw [gcd_zero hx] at hp
      subst hp
      have hg0 : ¬ gcdI n d = 0 := by omega
      have w1 := tdiv_in h0 (by omega) hg
      have w2 := tdiv_in (n := d) (by omega) h2 hg
      have bt65 : ∀ a b : Int, aBuilt Zs 59 [(0, .int .i64 a), (1, .int .i64 b)] = some [.int .i64 a, .int .i64 b] := fun _ _ => by rfl
      simp -dsimp only [h3, h4, e1, e2, bne_self_eq_false, ↓preB, postB, genB, ↓reduceIte, Nat.reduceEqDiff, Int.reduceToNat, Int.reduceLE, Int.reduceLT, Nat.reduceAdd, Nat.reduceLeDiff, intBin, strBin, unD, extractD, lit1, lit2, lit3, keptD, boxR, D.one, D.pub1, D.cells, splice, cutOwn]
      refine draw_t 9 (by decide) ?_
      simp -dsimp only [h3, h4, e1, e2, f1, f2, hg0, w1, w2, bt65, ↓preB, postB, genB, ↓reduceIte, Nat.reduceEqDiff, Int.reduceToNat, Int.reduceLE, Int.reduceLT, Nat.reduceAdd, Nat.reduceLeDiff, intBin, strBin, unD, extractD, lit1, lit2, lit3, keptD, boxR, D.one, D.pub1, D.cells, splice, cutOwn]
      refine ⟨_, ares_cell (r := σ.next + 1) tz59 (by simp [upd_apply, e2]) (Heap.set_same _ _ _) (pack65 _ _ _ tz59), ?_⟩
      exact Ret.told σ _ (Nat.le_refl _) (hle.set_out _ hcl (by omega)) hcl (.refl _) (bel_two _ _ _) ⟨rfl, rfl⟩
    · have c2' : (y != 0) = true := by simpa using c2
      obtain ⟨g1, g2, g3⟩ := gcd_step hx (show 0 < y by omega)
      simp -dsimp only [h3, h4, e1, e2, c2', c2, ↓preB, postB, genB, ↓reduceIte, Nat.reduceEqDiff, Int.reduceToNat, Int.reduceLE, Int.reduceLT, Nat.reduceAdd, Nat.reduceLeDiff, intBin, strBin, unD, extractD, lit1, lit2, lit3, keptD, boxR, D.one, D.pub1, D.cells, splice, cutOwn]
      refine draw_s ?_
      simp -dsimp only [h3, h4, e1, e2, c2', c2, ↓preB, postB, genB, ↓reduceIte, Nat.reduceEqDiff, Int.reduceToNat, Int.reduceLE, Int.reduceLT, Nat.reduceAdd, Nat.reduceLeDiff, intBin, strBin, unD, extractD, lit1, lit2, lit3, keptD, boxR, D.one, D.pub1, D.cells, splice, cutOwn]
      exact ⟨(y, x.tmod y), ⟨hy, g2, by rw [g1, hp], rfl, rfl⟩, by simp only; omega⟩

/-- A tag's chance, not in least terms, out of the counts. -/
def aF (cf : CF) (t : ByteArray) : Wd → Int := fun e => cf (keyB e sp) t
theorem aF_ok {cf : CF} (hn : Nice cf) (t : ByteArray) (e : Wd) : 0 ≤ aF cf t e ∧ aF cf t e ≤ aF cf noB e ∧ aF cf noB e ≤ 1000 := hn _ _
theorem aF_nil (cf : CF) (t : ByteArray) : aF cf t [] = cf noB t := by rw [aF, keyB_nil]
theorem chance_c (w : Wd) (t : ByteArray) (hw : goodW w) (q : Nat) (mf : ByteArray × ByteArray → Int) (cf : CF) (hn : Nice cf) (σ0 σ : Heap) (h : PG σ0 mf cf q σ) :
    PCall Zs 25 [.ptr q 0, encSS w, .str t] σ (fun d τ => d = .agg [.int .i64 (chV (aF cf t) (aF cf noB) w).1, .int .i64 (chV (aF cf t) (aF cf noB) w).2] ∧ τ = σ) := by
  have hPG := h
  obtain ⟨r1, r2, M, E, A, hP, hM, hA⟩ := h
  refine pcall_of (Z := Zs) ok25 fun hcl hbl => ?_
  simp -dsimp only [L25, encSS, ↓preB, postB, genB, ↓reduceIte, Nat.reduceEqDiff, Int.reduceToNat, Int.reduceLE, Int.reduceLT, Nat.reduceAdd, Nat.reduceLeDiff, intBin, strBin, unD, extractD, lit1, lit2, lit3, keptD, boxR, D.one, D.pub1, D.cells, splice, cutOwn]
  have hle1 : HLe σ (σ.new (.cells 59 [.int .i64 0, .int .i64 0])) := HLe.self_new _ hcl
  have hn1 : (σ.new (.cells 59 [.int .i64 0, .int .i64 0])).next = σ.next + 1 := rfl
  have f0 : (σ.new (.cells 59 [.int .i64 0, .int .i64 0])).get σ.next = some (.cells 59 [.int .i64 0, .int .i64 0]) := Heap.new_same _ _
  obtain ⟨s1, hs1⟩ : ∃ s1, σ.new (.cells 59 [.int .i64 0, .int .i64 0]) = s1 := ⟨_, rfl⟩
  rw [hs1] at hle1 hn1 f0
  have hle2 : ∀ o, HLe σ (s1.new o) := fun o => hle1.new' o hcl
  have hP1 := hP.more hle1
  obtain ⟨d0, k1, k2⟩ := hP1.two hA noB t
  have hP2 := hP.more (hle2 (.cells 59 [.int .i64 0, .int .i64 0]))
  obtain ⟨d1, k3, k4⟩ := hP2.two hA noB t
  have hd : d1 = d0 := by
    have q1 := hP1.lk2 noB
    have q2 := hP2.lk2 noB
    rw [k1] at q1
    rw [k3] at q2
    exact (Option.some.inj q2).trans (Option.some.inj q1).symm
  subst hd
  replace k1 : lookupD Zs s1.get 41 (.map r2) (.str ⟨#[]⟩) false = some d1 := k1
  replace k3 : lookupD Zs (s1.new (.cells 59 [.int .i64 0, .int .i64 0])).get 41 (.map r2) (.str ⟨#[]⟩) false = some d1 := k3
  refine draw_a 11 10 (s1.new (.cells 59 [.int .i64 0, .int .i64 0])) (by decide) (by decide) (by decide) ?_
  simp -dsimp only [hs1, hP1.hq, hP2.hq, k1, k2, k3, k4, actOps_nil, actOps_act, actOps_hf, actOps_two, actOp_alloc, actOp_mapEntry, actOp_makeMap, actOp_box, kAct_some, hfB, ne_eq, eq_self, ↓preB, postB, genB, ↓reduceIte, Nat.reduceEqDiff, Int.reduceToNat, Int.reduceLE, Int.reduceLT, Nat.reduceAdd, Nat.reduceLeDiff, intBin, strBin, unD, extractD, lit1, lit2, lit3, keptD, boxR, D.one, D.pub1, D.cells, splice, cutOwn]
  refine ⟨_, all_c q mf cf σ0 _ ⟨r1, r2, M, E, A, hP1, hM, hA⟩, ?_⟩
  simp -dsimp only [hs1, hP1.hq, hP2.hq, k1, k2, k3, k4, actOps_nil, actOps_act, actOps_hf, actOps_two, actOp_alloc, actOp_mapEntry, actOp_makeMap, actOp_box, kAct_some, hfB, ne_eq, eq_self, ↓preB, postB, genB, ↓reduceIte, Nat.reduceEqDiff, Int.reduceToNat, Int.reduceLE, Int.reduceLT, Nat.reduceAdd, Nat.reduceLeDiff, intBin, strBin, unD, extractD, lit1, lit2, lit3, keptD, boxR, D.one, D.pub1, D.cells, splice, cutOwn]
  refine ⟨_, all_c q mf cf σ0 _ ⟨r1, r2, M, E, A, hP2, hM, hA⟩, ?_⟩
  have bt65 : ∀ a b : Int, aBuilt Zs 59 [(0, .int .i64 a), (1, .int .i64 b)] = some [.int .i64 a, .int .i64 b] := fun _ _ => by rfl
  have g1 : ∀ o, (s1.new o).get (σ.next + 1) = some o := fun o => by rw [← hn1, Heap.new_same]
  simp -dsimp only [hs1, hn1, hP1.hq, hP2.hq, k1, k2, k3, k4, bt65, g1, actOps_nil, actOps_act, actOps_hf, actOps_two, actOp_alloc, actOp_mapEntry, actOp_makeMap, actOp_box, kAct_some, hfB, ne_eq, eq_self, ↓preB, postB, genB, ↓reduceIte, Nat.reduceEqDiff, Int.reduceToNat, Int.reduceLE, Int.reduceLT, Nat.reduceAdd, Nat.reduceLeDiff, intBin, strBin, unD, extractD, lit1, lit2, lit3, keptD, boxR, D.one, D.pub1, D.cells, splice, cutOwn]
  generalize hR : chV (aF cf t) (aF cf noB) w = R
  have h00 := aF_ok hn t []
  rw [aF_nil, aF_nil] at h00
  have hw60 := hw.1
  refine pwp_loopG (fun (x : Nat × Int × Int) env s => 1 ≤ x.1 ∧ x.1 ≤ 5 ∧ x.1 ≤ w.length + 1 ∧ chF (aF cf t) (aF cf noB) w (min w.length 4 + 1 - x.1) x.1 x.2.1 x.2.2 = R ∧ 0 ≤ x.2.1 ∧ x.2.1 ≤ x.2.2 ∧ x.2.2 ≤ bnd x.1 ∧ HLe σ s ∧ s.get σ.next = some (.cells 59 [.int .i64 0, .int .i64 0]) ∧ s.get (σ.next + 1) = some (.cells 59 [.int .i64 x.2.1, .int .i64 x.2.2]) ∧ env 8 = .int .i64 (x.1:Nat) ∧ env 7 = .ptr (σ.next + 1) 0 ∧ env 6 = .ptr σ.next 0 ∧ env 0 = .ptr q 0 ∧ env 1 = encSS w ∧ env 2 = .str t) (fun x => 5 - x.1) (1, cf noB t, cf noB noB) ?_ ?_
  · have hb1 : cf noB noB ≤ bnd 1 := Int.le_trans h00.2.2 (by decide)
    have hR2 : chF (aF cf t) (aF cf noB) w (min w.length 4) 1 (cf noB t) (cf noB noB) = R := by rw [← hR, chV, aF_nil, aF_nil]
    have g2 : ∀ o, (s1.new o).get σ.next = some (.cells 59 [.int .i64 0, .int .i64 0]) := fun o => by rw [Heap.new_ne _ _ (by omega)]; exact f0
    have g3 : (s1.new (.cells 59 [.int .i64 0, .int .i64 0])).set (σ.next + 1) (.cells 59 [.int .i64 (cf noB t), .int .i64 (cf noB noB)]) = s1.new (.cells 59 [.int .i64 (cf noB t), .int .i64 (cf noB noB)]) := by rw [← hn1, Heap.new_set]
    simp only [upd_apply, envOf_apply, Nat.reduceEqDiff, if_true, if_false, g3, g1, g2]
    exact ⟨Nat.le_refl _, by omega, by omega, hR2, h00.1, h00.2.1, hb1, hle2 _, by first | rfl | trivial, by first | rfl | trivial, by first | rfl | trivial, by first | rfl | trivial, by first | rfl | trivial, by first | rfl | trivial, by first | rfl | trivial, by first | rfl | trivial⟩
  · rintro ⟨i, n, d⟩ env s ⟨hi1, hi5, hiw, hp, hn0, hnd, hdb, hle, f6, f7, h8, h7, h6, h0, h1, h2⟩
    simp only at hi1 hi5 hiw hp hn0 hnd hdb f7 h8
    have hPs := hP.more hle
    have hmin : (if (4 : Int) < (w.length : Int) then (4 : Int) else (w.length : Int)) = ((min w.length 4 : Nat) : Int) := by split <;> omega
    have fin : (n, d) = R → Ret σ (fun d' τ => d' = .agg [.int .i64 R.1, .int .i64 R.2] ∧ τ = σ) (.agg [.int .i64 n, .int .i64 d]) (s.set σ.next (.cells 59 [.int .i64 n, .int .i64 d])) := fun e => by
      subst e
      exact Ret.told σ _ (Nat.le_refl _) (hle.set_out _ hcl (Nat.le_refl _)) hcl (.refl _) (bel_two _ _ _) ⟨rfl, rfl⟩
    by_cases c2 : i ≤ min w.length 4
    · have c2' : (i : Int) ≤ ((min w.length 4 : Nat) : Int) := by omega
      have hil : i ≤ w.length := by omega
      have hk : min w.length 4 + 1 - i = (min w.length 4 + 1 - (i + 1)) + 1 := by omega
      rw [hk] at hp
      simp only [chF] at hp
      obtain ⟨x1, x2, x3⟩ := aF_ok hn t (suf w i)
      obtain ⟨q0, q1, q2, q3⟩ := chstep hn0 hnd hdb x1 x2 x3
      have q4 := bnd_le (i := i + 1) (by omega)
      have hws := wsub hil (show w.length ≤ big by simp only [big]; omega)
      have hle2' : ((w.length - i : Nat) : Int) ≤ (w.length : Int) := by omega
      have hsuf : D.sl .no (w.length - (w.length - i)) (((w.map D.str).drop (w.length - i)).take (w.length - (w.length - i))) = encSS (suf w i) := encSS_drop w _ (Nat.sub_le _ _)
      simp -dsimp only [h8, h7, h6, h0, h1, h2, encSS, hmin, c2', ↓preB, postB, genB, ↓reduceIte, Nat.reduceEqDiff, Int.reduceToNat, Int.reduceLE, Int.reduceLT, Nat.reduceAdd, Nat.reduceLeDiff, intBin, strBin, unD, extractD, lit1, lit2, lit3, keptD, boxR, D.one, D.pub1, D.cells, splice, cutOwn]
      intros
      refine draw_s ?_
      have hl2 := hPs.lk2 (keyB (suf w i) sp)
      simp -dsimp only [h8, h7, h6, h0, h1, h2, encSS, hPs.hq, hws, hle2', hsuf, ↓preB, postB, genB, ↓reduceIte, Nat.reduceEqDiff, Int.reduceToNat, Int.reduceLE, Int.reduceLT, Nat.reduceAdd, Nat.reduceLeDiff, intBin, strBin, unD, extractD, lit1, lit2, lit3, keptD, boxR, D.one, D.pub1, D.cells, splice, cutOwn]
      refine ⟨by omega, Fn.useS (gkey_c _ (hw.drop _)) ?_⟩
      cases hE : lkp E (keyB (suf w i) sp) with
      | none =>
        rw [hE] at hl2
        have hz : aF cf noB (suf w i) = 0 := hA.cnt0 hE noB
        rw [if_pos hz] at hp
        simp -dsimp only [h8, h7, h6, h0, h1, h2, encSS, hPs.hq, hl2, f6, f7, ↓preB, postB, genB, ↓reduceIte, Nat.reduceEqDiff, Int.reduceToNat, Int.reduceLE, Int.reduceLT, Nat.reduceAdd, Nat.reduceLeDiff, intBin, strBin, unD, extractD, lit1, lit2, lit3, keptD, boxR, D.one, D.pub1, D.cells, splice, cutOwn]
        refine ⟨_, ares_cell (r := σ.next) tz59 (by simp [upd_apply, h6]) (Heap.set_same _ _ _) (pack65 _ _ _ tz59), fin hp⟩
      | some r =>
        rw [hE] at hl2
        have hz : ¬ aF cf noB (suf w i) = 0 := hA.pos hn hE
        rw [if_neg hz] at hp
        have l3 := hPs.lk3 hE t
        rw [hA.val hE] at l3
        have l4 := hPs.lk3 hE noB
        rw [hA.val hE] at l4
        replace l4 : lookupD Zs s.get 57 (.map r) (.str ⟨#[]⟩) false = some (.int .i64 (cf (keyB (suf w i) sp) noB)) := l4
        have w1 : IntKind.i64.wrap (aF cf t (suf w i) * d) = aF cf t (suf w i) * d := wrap64_in (by omega) (by omega)
        have w2 : IntKind.i64.wrap (aF cf t (suf w i) * d + n) = aF cf t (suf w i) * d + n := wrap64_in (by omega) (by omega)
        have w3 : IntKind.i64.wrap (aF cf noB (suf w i) + 1) = aF cf noB (suf w i) + 1 := wrap64_in (by omega) (by omega)
        have w4 : IntKind.i64.wrap (d * (aF cf noB (suf w i) + 1)) = d * (aF cf noB (suf w i) + 1) := wrap64_in (by omega) (by omega)
        unfold aF at w1 w2 w3 w4
        simp -dsimp only [h8, h7, h6, h0, h1, h2, encSS, hPs.hq, hl2, l3, l4, f6, f7, bt65, w1, w2, w3, w4, ↓preB, postB, genB, ↓reduceIte, Nat.reduceEqDiff, Int.reduceToNat, Int.reduceLE, Int.reduceLT, Nat.reduceAdd, Nat.reduceLeDiff, intBin, strBin, unD, extractD, lit1, lit2, lit3, keptD, boxR, D.one, D.pub1, D.cells, splice, cutOwn]
        refine ⟨(i + 1, _, _), ⟨by simp only; omega, by simp only; omega, by simp only; omega, hp, q1, q2, q3, hle.set_out _ hcl (by omega), ?_, rfl, wrap64_succ (by simp only [big]; omega)⟩, by simp only; omega⟩
        rw [Heap.set_ne _ _ (by omega)]; exact f6
    · have c2' : ¬ (i : Int) ≤ ((min w.length 4 : Nat) : Int) := by omega
      have hk : min w.length 4 + 1 - i = 0 := by omega
      rw [hk, chF] at hp
      simp -dsimp only [h8, h7, h6, h0, h1, h2, encSS, hmin, c2', f6, f7, ↓preB, postB, genB, ↓reduceIte, Nat.reduceEqDiff, Int.reduceToNat, Int.reduceLE, Int.reduceLT, Nat.reduceAdd, Nat.reduceLeDiff, intBin, strBin, unD, extractD, lit1, lit2, lit3, keptD, boxR, D.one, D.pub1, D.cells, splice, cutOwn]
      intros
      refine ⟨_, ares_cell (r := σ.next) tz59 (by simp [upd_apply, h6]) (Heap.set_same _ _ _) (pack65 _ _ _ tz59), fin hp⟩

/-- What the program tells of a tag's chance. -/
def gchD (none : Bool) (w : Wd) (cf : CF) (t : ByteArray) : D :=
  if badW w ≠ 0 then .tup [.int .i64 0, .int .i64 0, .int .i64 (badW w)]
  else if none = true then .tup [.int .i64 0, .int .i64 0, .int .i64 4]
  else if (t == noB) = true ∨ cf noB t = 0 then .tup [.int .i64 0, .int .i64 1, .int .i64 0]
  else .tup [.int .i64 (leastV (chV (aF cf t) (aF cf noB) w).1 (chV (aF cf t) (aF cf noB) w).2).1, .int .i64 (leastV (chV (aF cf t) (aF cf noB) w).1 (chV (aF cf t) (aF cf noB) w).2).2, .int .i64 0]
theorem ch_bound {cf : CF} (hn : Nice cf) (w : Wd) (t : ByteArray) : 0 ≤ (chV (aF cf t) (aF cf noB) w).1 ∧ (chV (aF cf t) (aF cf noB) w).1 ≤ (chV (aF cf t) (aF cf noB) w).2 ∧ (chV (aF cf t) (aF cf noB) w).2 ≤ 1005010010005001 ∧ (0 < cf noB noB → 0 < (chV (aF cf t) (aF cf noB) w).2) := by
  have h := chF_bound (a := aF cf t) (b := aF cf noB) (w := w) (aF_ok hn t) (min w.length 4) 1 (aF cf t []) (aF cf noB []) (by omega) (aF_ok hn t []).1 (aF_ok hn t []).2.1 (Int.le_trans (aF_ok hn t []).2.2 (by decide))
  rw [aF_nil cf noB] at h
  unfold chV
  rw [aF_nil cf noB]
  exact h
theorem Chance_c (w : Wd) (t : ByteArray) (q : Nat) (mf : ByteArray × ByteArray → Int) (cf : CF) (hn : Nice cf) (σ0 σ : Heap) (h : PG σ0 mf cf q σ) :
    PCall Zs 12 [.ptr q 0, encSS w, .str t] σ (fun d τ => d = gchD (cf noB noB == 0) w cf t ∧ τ = σ) := by
  have hPG := h
  obtain ⟨r1, r2, M, E, A, hP, hM, hA⟩ := h
  obtain ⟨d1, k1, k2⟩ := hP.two hA noB t
  replace k1 : lookupD Zs σ.get 41 (.map r2) (.str ⟨#[]⟩) false = some d1 := k1
  refine pcall_of (Z := Zs) ok12 fun hcl hbl => ?_
  simp -dsimp only [L12, ↓preB, postB, genB, ↓reduceIte, Nat.reduceEqDiff, Int.reduceToNat, Int.reduceLE, Int.reduceLT, Nat.reduceAdd, Nat.reduceLeDiff, intBin, strBin, unD, extractD, lit1, lit2, lit3, keptD, boxR, D.one, D.pub1, D.cells, splice, cutOwn]
  refine Fn.use (symsValidateWord_c w) ?_
  by_cases c1 : badW w = 0
  · have c1' : (badW w != 0) = false := by simpa using c1
    simp -dsimp only [c1', ↓preB, postB, genB, ↓reduceIte, Nat.reduceEqDiff, Int.reduceToNat, Int.reduceLE, Int.reduceLT, Nat.reduceAdd, Nat.reduceLeDiff, intBin, strBin, unD, extractD, lit1, lit2, lit3, keptD, boxR, D.one, D.pub1, D.cells, splice, cutOwn]
    refine PCall.use (none_c q mf cf σ0 σ hPG) ?_
    rintro _ τ ⟨rfl, hτ⟩
    subst hτ
    cases c2 : (cf noB noB == 0)
    · have c2' : cf noB noB ≠ 0 := by simpa using c2
      have last : ¬ ((t == noB) = true ∨ cf noB t = 0) → kCall Zs 25 [.ptr q 0, encSS w, .str t] τ (fun d σ' => d = .agg [.int .i64 (chV (aF cf t) (aF cf noB) w).1, .int .i64 (chV (aF cf t) (aF cf noB) w).2] ∧ σ' = τ) ⟨⟩ := fun _ => PCall.use (chance_c w t (badW_good c1) q mf cf hn σ0 τ hPG) fun _ _ h => h
      have hgd : ¬ ((t == noB) = true ∨ cf noB t = 0) → gchD false w cf t = .tup [.int .i64 (leastV (chV (aF cf t) (aF cf noB) w).1 (chV (aF cf t) (aF cf noB) w).2).1, .int .i64 (leastV (chV (aF cf t) (aF cf noB) w).1 (chV (aF cf t) (aF cf noB) w).2).2, .int .i64 0] := fun h => by
        rw [gchD, if_neg (fun h => h c1), if_neg (by simp), if_neg h]
      obtain ⟨b0, b1, b2, b3⟩ := ch_bound hn w t
      have b4 := b3 (by have := hn noB noB; omega)
      have f0 : ∀ o, (τ.new o).get τ.next = some o := fun o => Heap.new_same _ _
      cases c3 : (t == (⟨#[]⟩ : ByteArray))
      · by_cases c4 : cf noB t = 0
        · have c4' : (cf noB t == 0) = true := by simpa using c4
          simp -dsimp only [hP.hq, k1, k2, c2, c3, c4', ↓preB, postB, genB, ↓reduceIte, Nat.reduceEqDiff, Int.reduceToNat, Int.reduceLE, Int.reduceLT, Nat.reduceAdd, Nat.reduceLeDiff, intBin, strBin, unD, extractD, lit1, lit2, lit3, keptD, boxR, D.one, D.pub1, D.cells, splice, cutOwn]
          exact Ret.is (by rw [gchD, if_neg (fun h => h c1), if_neg (by simp), if_pos (.inr c4)])
        · have c4' : (cf noB t == 0) = false := by simpa using c4
          have hno : ¬ ((t == noB) = true ∨ cf noB t = 0) := fun h => h.elim (fun h => by rw [noB, c3] at h; cases h) c4
          simp -dsimp only [hP.hq, k1, k2, c2, c3, c4', ↓preB, postB, genB, ↓reduceIte, Nat.reduceEqDiff, Int.reduceToNat, Int.reduceLE, Int.reduceLT, Nat.reduceAdd, Nat.reduceLeDiff, intBin, strBin, unD, extractD, lit1, lit2, lit3, keptD, boxR, D.one, D.pub1, D.cells, splice, cutOwn]
          refine PCall.use (chance_c w t (badW_good c1) q mf cf hn σ0 τ hPG) ?_
          rintro _ τ2 ⟨rfl, hτ2⟩
          subst hτ2
          simp -dsimp only [↓preB, postB, genB, ↓reduceIte, Nat.reduceEqDiff, Int.reduceToNat, Int.reduceLE, Int.reduceLT, Nat.reduceAdd, Nat.reduceLeDiff, intBin, strBin, unD, extractD, lit1, lit2, lit3, keptD, boxR, D.one, D.pub1, D.cells, splice, cutOwn]
          refine Fn.use (least_c _ _ b0 b1 b4 b2) ?_
          simp -dsimp only [↓preB, postB, genB, ↓reduceIte, Nat.reduceEqDiff, Int.reduceToNat, Int.reduceLE, Int.reduceLT, Nat.reduceAdd, Nat.reduceLeDiff, intBin, strBin, unD, extractD, lit1, lit2, lit3, keptD, boxR, D.one, D.pub1, D.cells, splice, cutOwn]
          refine draw_s ?_
          simp -dsimp only [f0, ↓preB, postB, genB, ↓reduceIte, Nat.reduceEqDiff, Int.reduceToNat, Int.reduceLE, Int.reduceLT, Nat.reduceAdd, Nat.reduceLeDiff, intBin, strBin, unD, extractD, lit1, lit2, lit3, keptD, boxR, D.one, D.pub1, D.cells, splice, cutOwn]
          exact Ret.told τ2 _ (Nat.le_refl _) (HLe.self_new _ hcl) hcl (.refl _) (.tup3 (.int _ _) (.int _ _) (.int _ _)) ⟨by rw [hgd hno], rfl⟩
      · simp -dsimp only [hP.hq, k1, k2, c2, c3, ↓preB, postB, genB, ↓reduceIte, Nat.reduceEqDiff, Int.reduceToNat, Int.reduceLE, Int.reduceLT, Nat.reduceAdd, Nat.reduceLeDiff, intBin, strBin, unD, extractD, lit1, lit2, lit3, keptD, boxR, D.one, D.pub1, D.cells, splice, cutOwn]
        exact Ret.is (by rw [gchD, if_neg (fun h => h c1), if_neg (by simp), if_pos (.inl (by rw [noB, c3]))])
    · simp -dsimp only [c2, ↓preB, postB, genB, ↓reduceIte, Nat.reduceEqDiff, Int.reduceToNat, Int.reduceLE, Int.reduceLT, Nat.reduceAdd, Nat.reduceLeDiff, intBin, strBin, unD, extractD, lit1, lit2, lit3, keptD, boxR, D.one, D.pub1, D.cells, splice, cutOwn]
      exact Ret.is (by rw [gchD, if_neg (fun h => h c1), if_pos rfl])
  · have c1' : (badW w != 0) = true := by simpa using c1
    simp -dsimp only [c1', ↓preB, postB, genB, ↓reduceIte, Nat.reduceEqDiff, Int.reduceToNat, Int.reduceLE, Int.reduceLT, Nat.reduceAdd, Nat.reduceLeDiff, intBin, strBin, unD, extractD, lit1, lit2, lit3, keptD, boxR, D.one, D.pub1, D.cells, splice, cutOwn]
    exact Ret.is (by rw [gchD, if_pos c1])

end Go.Proofs.YthchlpikcpidaaaDoor.Vs

/- numbers of Ythchlpikcpidaaa -/
namespace Go.Proofs.YthchlpikcpidaaaDoor.Vs
set_option linter.unusedVariables false
set_option linter.unusedSimpArgs false
set_option maxRecDepth 20000
theorem badLL_one (w : Wd) : badLL [w] = badW w := by
  rw [badLL_cons]
  cases h : (badW w != 0) with
  | true => rfl
  | false => have : badW w = 0 := by simpa using h
             rw [this]; rfl
section
variable {l : List Smp} (hl : ∀ x ∈ l, fineS x) (ht : tot l ≤ 1000)
include hl
theorem cf_tot : cfL l noB noB = tot l := by
  have := cfL_val hl (e := []) ⟨by simp, by simp, by simp⟩ (by simp) noB
  rw [keyB_nil] at this; exact this
include ht
omit ht in
end
theorem PG.more {σ0 σ σ' : Heap} {mf : ByteArray × ByteArray → Int} {cf : CF} {q : Nat} (h : PG σ0 mf cf q σ) (hle : HLe σ σ') : PG σ0 mf cf q σ' := by
  obtain ⟨r1, r2, M, E, A, hP, hM, hA⟩ := h
  exact ⟨r1, r2, M, E, A, hP.more hle, hM, hA⟩

def D.pub2 : D → D
  | .sl _ n cs => .sl .no n (cs.map D.pub1)
  | d => d
theorem Told.pub2 (σ τ : Heap) (d : D) : Told σ τ d d.pub2 := by
  cases d with
  | sl o n cs => exact .sl o .no n cs _ (.inl rfl) (by simp) fun i h1 h2 => by simp only [List.getElem_map]; exact .pub1 _ _ _
  | _ => exact .refl _
theorem Bel.pub2 {N : Nat} {d : D} (h : Bel N d) : Bel N d.pub2 := by
  cases h with
  | sl o n cs h1 h2 =>
    refine .sl _ _ _ (fun r z he => by cases he) fun d hd => ?_
    obtain ⟨x, hx, rfl⟩ := List.mem_map.1 hd
    exact Bel.pub1 (h2 x hx)
  | ptr r off h => exact .ptr r off h
  | «at» cs h => exact .at cs h
  | row r off n c z h => exact .row r off n c z h
  | map r h => exact .map r h
  | func f cs h => exact .func f cs h
  | bfunc f cs h => exact .bfunc f cs h
  | agg cs h => exact .agg cs h
  | tup cs h => exact .tup cs h
  | iface t d h => exact .iface t d h
  | _ => constructor
theorem PCall.useP2 {Z : Sys} {f : FuncId} {ds ds' : List D} {σ : Heap} {K K' : D → Heap → Prop} {h : Keep K'} (c : PCall Z f ds' σ K) (he : ds.map D.pub2 = ds') (hk : ∀ d τ, K d τ → K' d τ) : kCall Z f ds σ K' h := by
  subst he
  exact PCall.args (c.mono hk) (by simp) fun i h1 h2 => by simp only [List.getElem_map]; exact ⟨.pub2 _ _ _, Bel.pub2⟩
def bA : ByteArray := ⟨#[97]⟩
def bB : ByteArray := ⟨#[98]⟩
def bN : ByteArray := ⟨#[78]⟩
def bV : ByteArray := ⟨#[86]⟩
def exL : List Smp := [⟨[bA], bN, 1⟩, ⟨[bB], bV, 1⟩]
theorem exL_ok : newE exL = 0 := by kernel_rfl
theorem exL_ch : gchD (cfL exL noB noB == 0) [bA] (cfL exL) bN = .tup [.int .i64 3, .int .i64 4, .int .i64 0] := by kernel_rfl
theorem bt51 (o : Own) (n : Nat) (cs : List D) (t : ByteArray) (k : Int) : aBuilt Zs 25 [(0, .sl o n cs), (1, .str t), (2, .int .i64 k)] = some [.sl o n cs, .str t, .int .i64 k] := by rfl
theorem bs22 (o o2 : Own) (n n2 nx : Nat) (cs cs2 : List D) (t t2 : ByteArray) (k k2 : Int) : buildSliceR Zs 0 22 2 [(0, .agg [.sl o n cs, .str t, .int .i64 k]), (1, .agg [.sl o2 n2 cs2, .str t2, .int .i64 k2])] nx = some (.sl .full 2 [.sl o n cs, .str t, .int .i64 k, .sl o2 n2 cs2, .str t2, .int .i64 k2], .keep) := by rfl
theorem known_c : Fn Zs 5 [] (.bool true) := by
  refine fn_of (Z := Zs) ok5 fun σ hcl hbl => ?_
  simp -dsimp only [L5, bt51, bs22, ↓preB, postB, genB, ↓reduceIte, Nat.reduceEqDiff, Int.reduceToNat, Int.reduceLE, Int.reduceLT, Nat.reduceAdd, Nat.reduceLeDiff, intBin, strBin, unD, extractD, lit1, lit2, lit3, keptD, boxR, D.one, D.pub1, D.cells, splice, cutOwn]
  refine PCall.useP2 (new_c exL σ) rfl ?_
  rintro d τ ⟨hle, ⟨h, _⟩ | ⟨_, q, rfl, hPG⟩⟩
  · exact absurd exL_ok h
  simp -dsimp only [↓preB, postB, genB, ↓reduceIte, Nat.reduceEqDiff, Int.reduceToNat, Int.reduceLE, Int.reduceLT, Nat.reduceAdd, Nat.reduceLeDiff, intBin, strBin, unD, extractD, lit1, lit2, lit3, keptD, boxR, D.one, D.pub1, D.cells, splice, cutOwn]
  have hfine := badS_ok (newE_fine exL_ok).2
  refine PCall.useP2 (Chance_c [bA] bN q (mfL exL) (cfL exL) (cfL_nice hfine.1 hfine.2) σ τ hPG) rfl ?_
  rintro d τ ⟨rfl, rfl⟩
  rw [exL_ch]
  simp -dsimp only [beq_self_eq_true, ↓preB, postB, genB, ↓reduceIte, Nat.reduceEqDiff, Int.reduceToNat, Int.reduceLE, Int.reduceLT, Nat.reduceAdd, Nat.reduceLeDiff, intBin, strBin, unD, extractD, lit1, lit2, lit3, keptD, boxR, D.one, D.pub1, D.cells, splice, cutOwn]
  exact Ret.less hle hcl (.refl _) (.bool _)

end Go.Proofs.YthchlpikcpidaaaDoor.Vs
