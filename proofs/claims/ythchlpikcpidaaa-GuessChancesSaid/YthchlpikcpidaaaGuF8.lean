/- numbers of Ythchlpikcpidaaa -/
/- The program's guesser: made of samples. -/
import Derived.Test.YthchlpikcpidaaaGuF7
namespace Go.Proofs.Ythchlpikcpidaaa.Vs
set_option linter.unusedVariables false
set_option linter.unusedSimpArgs false
set_option maxRecDepth 20000

theorem keyB_nil : keyB [] sp = noB := by rfl
theorem suf_all (w : Wd) : suf w 0 = [] := by simp [suf]
theorem isEnd_suf {e w : Wd} (h : isEnd e w = true) : e.length ≤ w.length ∧ e = suf w e.length := by
  simp only [isEnd, Bool.and_eq_true, decide_eq_true_eq] at h
  exact ⟨h.1, (eqW_iff.1 h.2).symm⟩
theorem suf_isEnd {w : Wd} {k : Nat} (h : k ≤ w.length) : isEnd (suf w k) w = true := by
  simp only [isEnd, Bool.and_eq_true, decide_eq_true_eq]
  have := suf_len h
  refine ⟨by omega, eqW_iff.2 ?_⟩
  rw [this]; rfl
theorem addAt_val (f : ByteArray → Int) (k : ByteArray) (n : Int) (t : ByteArray) : addAt f k n t = f t + if t = k then n else 0 := by
  unfold addAt; split <;> simp
def two (tag t : ByteArray) (n : Int) : Int := (if t = tag then n else 0) + if t = noB then n else 0
theorem putF_val {cf : CF} {w : Wd} {tag : ByteArray} {n : Int} (hw : goodW w) {e : Wd} (he : goodW e) (t : ByteArray) : ∀ k, k ≤ w.length + 1 → putF cf w tag n k (keyB e sp) t = cf (keyB e sp) t + if e.length < k ∧ isEnd e w = true then two tag t n else 0
  | 0, _ => by simp [putF]
  | k + 1, hk => by
    have ih := putF_val (cf := cf) (tag := tag) (n := n) hw he t k (by omega)
    simp only [putF, stepF]
    by_cases hs : e = suf w k
    · have hl := suf_len (show k ≤ w.length by omega)
      subst hs
      have h1 : isEnd (suf w k) w = true := suf_isEnd (by omega)
      have q1 : ¬ ((suf w k).length < k ∧ isEnd (suf w k) w = true) := fun h => by omega
      have q2 : (suf w k).length < k + 1 ∧ isEnd (suf w k) w = true := ⟨by omega, h1⟩
      rw [if_pos rfl, addAt_val, addAt_val, ih, if_neg q1, if_pos q2, two]
      omega
    · have hne : keyB e sp ≠ keyB (suf w k) sp := fun h => hs (keyB_inj he (hw.drop _) h)
      rw [if_neg hne, ih]
      congr 1
      by_cases h1 : e.length < k ∧ isEnd e w = true
      · rw [if_pos h1, if_pos ⟨by omega, h1.2⟩]
      · rw [if_neg h1, if_neg]
        rintro ⟨a, b⟩
        obtain ⟨c1, c2⟩ := isEnd_suf b
        have : ¬ e.length < k := fun h => h1 ⟨h, b⟩
        have : e.length = k := by omega
        rw [this] at c2
        exact hs c2
theorem putF_out {cf : CF} {w : Wd} {tag : ByteArray} {n : Int} (hw : goodW w) {e : ByteArray} (he : ¬ ∃ v, goodW v ∧ v.length ≤ 4 ∧ keyB v sp = e) (t : ByteArray) : ∀ k, k ≤ min w.length 4 + 1 → putF cf w tag n k e t = cf e t
  | 0, _ => rfl
  | k + 1, hk => by
    simp only [putF, stepF]
    have hl := suf_len (show k ≤ w.length by omega)
    rw [if_neg fun h => he ⟨suf w k, hw.drop _, by omega, h.symm⟩]
    exact putF_out hw he t k (by omega)
def mfL (l : List Smp) : ByteArray × ByteArray → Int := l.foldl (fun mf x => addAt mf (keyB x.word sp, x.tag) x.many) fun _ => 0
def cfL (l : List Smp) : CF := l.foldl (fun cf x => putF cf x.word x.tag x.many (min x.word.length 4 + 1)) fun _ _ => 0
theorem mfL_snoc (l : List Smp) (x : Smp) : mfL (l ++ [x]) = addAt (mfL l) (keyB x.word sp, x.tag) x.many := by simp [mfL]
theorem cfL_snoc (l : List Smp) (x : Smp) : cfL (l ++ [x]) = putF (cfL l) x.word x.tag x.many (min x.word.length 4 + 1) := by simp [cfL]
theorem snoc_ind {P : List Smp → Prop} (h0 : P []) (h1 : ∀ l x, P l → P (l ++ [x])) (l : List Smp) : P l := by
  have : ∀ n (l : List Smp), l.length = n → P l := fun n => by
    induction n with
    | zero => intro l hl; rw [List.eq_nil_of_length_eq_zero hl]; exact h0
    | succ n ih =>
      intro l hl
      rcases List.eq_nil_or_concat l with rfl | ⟨l', x, rfl⟩
      · exact h0
      · rw [List.concat_eq_append] at hl ⊢
        exact h1 _ _ (ih l' (by simpa using hl))
  exact this _ l rfl
theorem nm_ne {s : ByteArray} (h : isNm s = true) : s ≠ noB := fun e => by subst e; revert h; decide
theorem one_two {x : Smp} (ht : x.tag ≠ noB) (e : Wd) (t : ByteArray) : one e t x = if isEnd e x.word = true then two x.tag t x.many else 0 := by
  unfold one hit
  rw [ba_dec, ba_dec]
  by_cases h1 : isEnd e x.word = true
  · rw [h1, if_pos rfl]
    unfold two
    by_cases h2 : t = noB
    · have h3 : ¬ t = x.tag := fun e => ht (e ▸ h2)
      simp [h2, Ne.symm ht]
    · by_cases h3 : t = x.tag <;> simp [h2, h3, ht]
  · simp [h1]
theorem cfL_val {l : List Smp} (hl : ∀ x ∈ l, fineS x) {e : Wd} (he : goodW e) (h4 : e.length ≤ 4) (t : ByteArray) : cfL l (keyB e sp) t = cnt l e t := by
  revert hl
  refine snoc_ind (P := fun l => (∀ x ∈ l, fineS x) → cfL l (keyB e sp) t = cnt l e t) (fun _ => rfl) (fun l x ih hl => ?_) l
  have hx := hl x (by simp)
  have hw := badW_good hx.1
  rw [cfL_snoc, cnt_append, cnt_one, putF_val hw he t _ (by omega), ih fun y hy => hl y (by simp [hy]), one_two (nm_ne hx.2.1)]
  congr 1
  by_cases h : isEnd e x.word = true
  · have := (isEnd_suf h).1
    rw [if_pos ⟨by omega, h⟩, if_pos h]
  · rw [if_neg (fun h' => h h'.2), if_neg h]
theorem cfL_out {l : List Smp} (hl : ∀ x ∈ l, fineS x) {e : ByteArray} (he : ¬ ∃ v, goodW v ∧ v.length ≤ 4 ∧ keyB v sp = e) (t : ByteArray) : cfL l e t = 0 := by
  revert hl
  refine snoc_ind (P := fun l => (∀ x ∈ l, fineS x) → cfL l e t = 0) (fun _ => rfl) (fun l x ih hl => ?_) l
  have hx := hl x (by simp)
  rw [cfL_snoc, putF_out (badW_good hx.1) he t _ (Nat.le_refl _)]
  exact ih fun y hy => hl y (by simp [hy])
/-- What is known of the counts of endings. -/
def Nice (cf : CF) : Prop := ∀ e t, 0 ≤ cf e t ∧ cf e t ≤ cf e noB ∧ cf e noB ≤ 1000
theorem cfL_nice {l : List Smp} (hl : ∀ x ∈ l, fineS x) (ht : tot l ≤ 1000) : Nice (cfL l) := fun e t => by
  have hF : Fine l := ⟨fun x hx => (hl x hx).2.2, ht⟩
  by_cases h : ∃ v, goodW v ∧ v.length ≤ 4 ∧ keyB v sp = e
  · obtain ⟨v, h1, h2, rfl⟩ := h
    rw [cfL_val hl h1 h2, cfL_val hl h1 h2]
    exact ⟨(hF.le v t).1, cnt_le hF.1 fun x _ hx => (hit_less hx).2, (hF.le v noB).2⟩
  · rw [cfL_out hl h, cfL_out hl h]; decide
theorem mfL_bound {l : List Smp} (hl : ∀ x ∈ l, fineS x) (k : ByteArray × ByteArray) : 0 ≤ mfL l k ∧ mfL l k ≤ tot l := by
  revert hl
  refine snoc_ind (P := fun l => (∀ x ∈ l, fineS x) → 0 ≤ mfL l k ∧ mfL l k ≤ tot l) (fun _ => ⟨Int.le_refl _, Int.le_refl _⟩) (fun l x ih hl => ?_) l
  have hx := (hl x (by simp)).2.2
  have ih := ih fun y hy => hl y (by simp [hy])
  rw [mfL_snoc, tot, cnt_append, cnt_one, one_all]
  have : cnt l [] noB = tot l := rfl
  unfold addAt
  split <;> omega

theorem badS_ok {l : List Smp} (h : badS l = 0) : (∀ x ∈ l, fineS x) ∧ tot l ≤ 1000 := by
  have h1 := badS_fine h
  refine ⟨h1, ?_⟩
  have h2 : sumE l 0 = 0 := by
    unfold badS at h
    split at h
    · rename_i h3; exact absurd h h3
    · split at h
      · cases h
      · exact h
  have := (sumE_tot (fun x hx => (h1 x hx).2.2) (Int.le_refl 0) (by decide)).1 h2
  omega

theorem new_c (l : List Smp) (σ : Heap) : PCall Zs 10 [encS l] σ (fun d τ => HLe σ τ ∧ ((newE l ≠ 0 ∧ d = .tup [.nilptr, .int .i64 (newE l)]) ∨ (newE l = 0 ∧ ∃ q, d = .tup [.ptr q 0, .int .i64 0] ∧ PG σ (mfL l) (cfL l) q τ))) := by
  refine pcall_of (Z := Zs) ok10 fun hcl hbl => ?_
  simp -dsimp only [L10, encS, ↓preB, postB, genB, ↓reduceIte, Nat.reduceEqDiff, Int.reduceToNat, Int.reduceLE, Int.reduceLT, Nat.reduceAdd, Nat.reduceLeDiff, intBin, strBin, unD, extractD, lit1, lit2, lit3, keptD, boxR, D.one, D.pub1, D.cells, splice, cutOwn]
  intro hbig
  by_cases c0 : (200 : Int) < l.length
  · have e1 : newE l = 3 := by rw [newE, if_pos (by omega)]
    simp -dsimp only [c0, ↓preB, postB, genB, ↓reduceIte, Nat.reduceEqDiff, Int.reduceToNat, Int.reduceLE, Int.reduceLT, Nat.reduceAdd, Nat.reduceLeDiff, intBin, strBin, unD, extractD, lit1, lit2, lit3, keptD, boxR, D.one, D.pub1, D.cells, splice, cutOwn]
    exact Ret.now (Nat.le_refl _) ⟨HLe.refl _, .inl ⟨by rw [e1]; decide, by rw [e1]⟩⟩
  simp -dsimp only [c0, ↓preB, postB, genB, ↓reduceIte, Nat.reduceEqDiff, Int.reduceToNat, Int.reduceLE, Int.reduceLT, Nat.reduceAdd, Nat.reduceLeDiff, intBin, strBin, unD, extractD, lit1, lit2, lit3, keptD, boxR, D.one, D.pub1, D.cells, splice, cutOwn]
  have hnew : newE l = badS l := by rw [newE, if_neg (by omega)]
  refine Fn.use (checked_c l) ?_
  by_cases c1 : badS l = 0
  · have c1' : (badS l != 0) = false := by simpa using c1
    obtain ⟨hfine, htot⟩ := badS_ok c1
    have hpos1 : ∀ x ∈ l, 1 ≤ x.many := fun x hx => (hfine x hx).2.2
    have bt56 : ∀ a b, aBuilt Zs 56 [(0, .map a), (1, .map b)] = some [.map a, .map b] := fun _ _ => by rfl
    simp -dsimp only [c1', bt56, hbig, ↓preB, postB, genB, ↓reduceIte, Nat.reduceEqDiff, Int.reduceToNat, Int.reduceLE, Int.reduceLT, Nat.reduceAdd, Nat.reduceLeDiff, intBin, strBin, unD, extractD, lit1, lit2, lit3, keptD, boxR, D.one, D.pub1, D.cells, splice, cutOwn]
    have hinit : PGx σ (((σ.new (.map [] 0)).new (.map [] 0)).new (.cells 56 [.map σ.next, .map (σ.next + 1)])) (σ.next + 2) σ.next (σ.next + 1) [] [] (fun _ => []) := by
      have n0 := hcl.none (Nat.le_refl σ.next)
      have n1 := hcl.none (show σ.next ≤ σ.next + 1 by omega)
      have n2 := hcl.none (show σ.next ≤ σ.next + 2 by omega)
      refine ⟨((HLe.self_new _ hcl).new _ hcl.lt).new _ hcl.lt, n2, n0, n1, by omega, by omega, by omega, ?_, ?_, ?_, ?_, ⟨[], 0, ?_, .nil⟩, ⟨[], 0, ?_, .nil⟩, fun p hp => (by cases hp), by simp, by simp⟩
      · simp [Heap.next_new]
      · simp [Heap.next_new]; omega
      · simp [Heap.next_new]
      · simp [Heap.new, Heap.next_new]
      · simp [Heap.new]; omega
      · simp [Heap.new]
    refine pwp_loopG (fun k env s => k ≤ l.length ∧ PG σ (mfL (l.take k)) (cfL (l.take k)) (σ.next + 2) s ∧ env 22 = .int .i64 (k:Nat) ∧ env 21 = .int .i64 l.length ∧ env 20 = encS l ∧ env 5 = .ptr (σ.next + 2) 0) (fun k => l.length - k) 0 ?_ ?_
    · have hPG0 : PG σ (mfL (l.take 0)) (cfL (l.take 0)) (σ.next + 2) (((σ.new (.map [] 0)).new (.map [] 0)).new (.cells 56 [.map σ.next, .map (σ.next + 1)])) :=
        ⟨_, _, [], [], fun _ => [], hinit, Cnt.nil, fun e => ⟨fun _ _ => rfl, fun h => absurd rfl h⟩⟩
      simp only [upd_apply, envOf_apply, Nat.reduceEqDiff, if_true, if_false]
      exact ⟨Nat.zero_le _, hPG0, by first | rfl | trivial, by first | rfl | trivial, by first | rfl | trivial, by first | rfl | trivial⟩
    · rintro k env s ⟨hk, hPG, h22, h21, h20, h5⟩
      rcases Nat.lt_or_ge k l.length with hlt | hge
      · have hd := cellsS_at hlt
        have hposc := cellsS_pos hlt
        have hfk := hfine _ (List.getElem_mem hlt)
        have hmk : l[k].many ≤ 1000 := by
          have h1 := tot_take hlt
          have h2 : tot (l.take (k + 1)) ≤ tot l := by
            have := (Fine.take ⟨hpos1, htot⟩ (k + 1)).2
            have h3 := cnt_append (l.take (k + 1)) (l.drop (k + 1)) [] noB
            rw [List.take_append_drop] at h3
            have h4 : 0 ≤ cnt (l.drop (k + 1)) [] noB := cnt_nonneg _ _ fun x hx => hpos1 x (List.mem_of_mem_drop hx)
            unfold tot; omega
          have h3 : 0 ≤ tot (l.take k) := cnt_nonneg _ _ fun x hx => hpos1 x (List.mem_of_mem_take hx)
          omega
        have hfk' : ∀ x ∈ l.take k, fineS x := fun x hx => hfine x (List.mem_of_mem_take hx)
        have htk : tot (l.take k) ≤ 1000 := (Fine.take ⟨hpos1, htot⟩ k).2
        have hnice := cfL_nice hfk' htk
        obtain ⟨r1, r2, M, E, A, hP, hM, hA⟩ := hPG
        have hPn := (hP.ext (.cells 51 [encSS l[k].word, .str l[k].tag, .int .i64 l[k].many])).low (ext0_le hP.le hcl.lt _)
        have hPGn : PG σ (mfL (l.take k)) (cfL (l.take k)) (σ.next + 2) (s.new (.cells 51 [encSS l[k].word, .str l[k].tag, .int .i64 l[k].many])) := ⟨r1, r2, M, E, A, hPn, hM, hA⟩
        simp -dsimp only [h22, h21, h20, h5, encS, hlt, hd, hposc, hbig, ↓preB, postB, genB, ↓reduceIte, Nat.reduceEqDiff, Int.reduceToNat, Int.reduceLE, Int.reduceLT, Nat.reduceAdd, Nat.reduceLeDiff, intBin, strBin, unD, extractD, lit1, lit2, lit3, keptD, boxR, D.one, D.pub1, D.cells, splice, cutOwn]
        refine PCall.use (put_c l[k] l[k].many (mfL (l.take k)) (cfL (l.take k)) (σ.next + 2) (badW_good hfk.1) ⟨by have := hfk.2.2; omega, hmk⟩ (fun kk => by have := mfL_bound hfk' kk; omega) (fun e t => by have := hnice e t; omega) σ _ hcl.lt hPGn) ?_
        intro d τ hτ
        simp -dsimp only [h22, h21, h20, h5, encS, hlt, hd, hposc, hbig, ↓preB, postB, genB, ↓reduceIte, Nat.reduceEqDiff, Int.reduceToNat, Int.reduceLE, Int.reduceLT, Nat.reduceAdd, Nat.reduceLeDiff, intBin, strBin, unD, extractD, lit1, lit2, lit3, keptD, boxR, D.one, D.pub1, D.cells, splice, cutOwn]
        refine ⟨k + 1, ⟨by omega, ?_, wrap64_succ (by omega)⟩, by omega⟩
        rw [take_snoc hlt, mfL_snoc, cfL_snoc]
        exact hτ
      · rw [List.take_of_length_le hge] at hPG
        have e1 : newE l = 0 := by rw [hnew, c1]
        simp -dsimp only [h22, h21, h20, h5, encS, Nat.not_lt.2 hge, hbig, ↓preB, postB, genB, ↓reduceIte, Nat.reduceEqDiff, Int.reduceToNat, Int.reduceLE, Int.reduceLT, Nat.reduceAdd, Nat.reduceLeDiff, intBin, strBin, unD, extractD, lit1, lit2, lit3, keptD, boxR, D.one, D.pub1, D.cells, splice, cutOwn]
        have hle : HLe σ s := by obtain ⟨_, _, _, _, _, hP, _⟩ := hPG; exact hP.le
        exact Ret.now hle.next ⟨hle, .inr ⟨e1, _, rfl, hPG⟩⟩
  · have c1' : (badS l != 0) = true := by simpa using c1
    simp -dsimp only [c1', ↓preB, postB, genB, ↓reduceIte, Nat.reduceEqDiff, Int.reduceToNat, Int.reduceLE, Int.reduceLT, Nat.reduceAdd, Nat.reduceLeDiff, intBin, strBin, unD, extractD, lit1, lit2, lit3, keptD, boxR, D.one, D.pub1, D.cells, splice, cutOwn]
    exact Ret.now (Nat.le_refl _) ⟨HLe.refl _, .inl ⟨by rw [hnew]; exact c1, by rw [hnew]⟩⟩
end Go.Proofs.Ythchlpikcpidaaa.Vs
