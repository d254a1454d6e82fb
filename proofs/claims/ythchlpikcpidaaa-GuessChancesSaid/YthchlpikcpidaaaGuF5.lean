/- numbers of Ythchlpikcpidaaa -/
/- The reference's guesser: a sample taken in. -/
import Derived.Test.YthchlpikcpidaaaGuF4
namespace Go.Proofs.Ythchlpikcpidaaa.Vs
set_option linter.unusedVariables false
set_option linter.unusedSimpArgs false
set_option maxRecDepth 20000

/-- The reference's guesser, made over a heap. -/
def RGo (σ0 : Heap) (L : List Smp) (q : Nat) (σ : Heap) : Prop := HLe σ0 σ ∧ σ0.get q = none ∧ q < σ.next ∧ ∃ d, σ.get q = some (.cells 60 [d]) ∧ ((L = [] ∧ d = .sl .nil 0 []) ∨ (L ≠ [] ∧ ∃ r js, r ≠ q ∧ σ0.get r = none ∧ d = .row r 0 L.length none 3 ∧ σ.get r = some (.cells 51 (cellsS L ++ js))))
theorem RGo.at {σ0 σ : Heap} {L : List Smp} {q : Nat} (h : RGo σ0 L q σ) : RGat L q σ := by
  obtain ⟨_, _, _, d, hq, hd⟩ := h
  refine ⟨d, hq, ?_⟩
  rcases hd with h | ⟨h1, r, js, h2, _, h3, h4⟩
  · exact .inl h
  · exact .inr ⟨h1, r, js, h2, h3, h4⟩
theorem RGo.less {σ0 σ σ' : Heap} {L : List Smp} {q : Nat} (h : RGo σ0 L q σ) (hle : HLe σ σ') : RGo σ0 L q σ' := by
  obtain ⟨h1, h2, h3, d, hq, hd⟩ := h
  refine ⟨h1.trans hle, h2, Nat.lt_of_lt_of_le h3 hle.next, d, hle.get _ _ hq, ?_⟩
  rcases hd with h | ⟨h1, r, js, h2, h2', h3, h4⟩
  · exact .inl h
  · exact .inr ⟨h1, r, js, h2, h2', h3, hle.get _ _ h4⟩
theorem bsS1 (o : Own) (n nx : Nat) (cs : List D) (t : ByteArray) (k : IntKind) (x : Int) : buildSliceR Zs 0 22 1 [(0, .agg [.sl o n cs, .str t, .int k x])] nx = some (.sl .full 1 [.sl o n cs, .str t, .int k x], .keep) := by rfl
section
variable {g : Nat → Option AO} {r n a : Nat} {k : IntKind}
theorem rowHi (h : a ≤ n) : sliceD Zs g 22 (.row r 0 n none 3) none (some (.int k a)) none = some (.row r 0 a none 3) := by
  unfold sliceD
  simp only [tz22, tz51, bound, Option.map_some, Option.map_none, Int.toNat_natCast]
  rw [if_pos ⟨by omega, by omega, .inl (by omega), trivial⟩]
  simp
theorem rowLo (h : a ≤ n) : sliceD Zs g 22 (.row r 0 n none 3) (some (.int k a)) none none = some (.row r (0 + a * 3) (n - a) none 3) := by
  unfold sliceD
  simp only [tz22, tz51, bound, Option.map_some, Option.map_none, Int.toNat_natCast]
  rw [if_pos ⟨by omega, by omega, .inl (by omega), trivial⟩]
theorem nilHi : sliceD Zs g 22 (.sl .nil 0 []) none (some (.int k ((0 : Nat) : Int))) none = some (.sl .nil 0 []) := by rfl
theorem nilLo : sliceD Zs g 22 (.sl .nil 0 []) (some (.int k ((0 : Nat) : Int))) none none = some (.sl .nil 0 []) := by rfl
theorem fedRow22 {off : Nat} {e : TypeId} {cs : List D} {c : Option Nat} (hg : g r = some (.cells e cs)) (hl : off + n * 3 ≤ cs.length) : fedBy Zs g 22 3 (.row r off n c 3) = some (n, (cs.drop off).take (n * 3)) := by
  simp [fedBy, tz22, hg, hl]
theorem fedNil22 : fedBy Zs g 22 3 (.sl .nil 0 []) = some (0, []) := by rfl
end
theorem rparts_ok {σ0 σ : Heap} {L : List Smp} {q i : Nat} {d : D} (hd : (L = [] ∧ d = .sl .nil 0 []) ∨ (L ≠ [] ∧ ∃ r js, r ≠ q ∧ σ0.get r = none ∧ d = .row r 0 L.length none 3 ∧ σ.get r = some (.cells 51 (cellsS L ++ js)))) (hi : i ≤ L.length) :
    ∃ y1 y2, (∀ g, sliceD Zs g 22 d none (some (.int .i64 (i : Int))) none = some y1) ∧ (∀ g, sliceD Zs g 22 d (some (.int .i64 (i : Int))) none none = some y2) ∧
      ∀ g : Nat → Option AO, (∀ r o, σ.get r = some o → g r = some o) → fedBy Zs g 22 3 y1 = some (i, cellsS (L.take i)) ∧ fedBy Zs g 22 3 y2 = some (L.length - i, cellsS (L.drop i)) := by
  rcases hd with ⟨rfl, rfl⟩ | ⟨hne, r, js, _, _, rfl, hr⟩
  · have : i = 0 := by simpa using hi
    subst this
    exact ⟨_, _, fun g => nilHi, fun g => nilLo, fun g _ => ⟨fedNil22, fedNil22⟩⟩
  · refine ⟨_, _, fun g => rowHi hi, fun g => rowLo hi, fun g hg => ?_⟩
    have hl := cellsS_len L
    have hc : (cellsS L ++ js).length = L.length * 3 + js.length := by rw [List.length_append, hl]
    constructor
    · rw [fedRow22 (hg _ _ hr) (by omega), List.drop_zero, List.take_append_of_le_length (by omega), cellsS_take]
    · rw [fedRow22 (hg _ _ hr) (by omega), Nat.zero_add, List.drop_append_of_le_length (by omega), cellsS_drop, List.take_append_of_le_length (by rw [cellsS_len, List.length_drop]; omega), List.take_of_length_le (by rw [cellsS_len, List.length_drop]; omega)]
theorem cellsS_set : ∀ {L : List Smp} {i : Nat} (n : Int), i < L.length → (cellsS L).set (i * 3 + 2) (.int .i64 ((L[i]?.map (·.many)).getD 0 + n)) = cellsS (L.modify i fun y => moreS y n)
  | [], i, n, h => by simp at h
  | x :: L, 0, n, h => by simp [cellsS, moreS]
  | x :: L, i + 1, n, h => by
    have ih := cellsS_set (L := L) (i := i) n (by simpa using h)
    rw [show (i + 1) * 3 + 2 = (i * 3 + 2) + 3 by omega]
    simp only [cellsS, List.set_cons_succ, List.modify_succ_cons, List.getElem?_cons_succ, ih]

theorem heap_set_self {σ : Heap} {q : Nat} {o : AO} (h : σ.get q = some o) : σ.set q o = σ := by
  cases σ with
  | mk n g =>
    simp only [Heap.set, Heap.mk.injEq, true_and]
    funext i
    split
    · rename_i hi; rw [hi]; exact h.symm
    · rfl
def noRoom (L : List Smp) (x : Smp) : Prop := 1000 < tot L + x.many ∨ (findR L x).2 = false ∧ 200 ≤ L.length
theorem take_c (L : List Smp) (q : Nat) (x : Smp) (hL : L.length ≤ 200) (hF : Fine L) (hx : 1 ≤ x.many) (hx2 : x.many ≤ 1000) (hw : x.word.length ≤ 60) (σ0 σ : Heap) (h : RGo σ0 L q σ) :
    PCall Zs 27 [.ptr q 0, aggS x] σ (fun d τ => (noRoom L x ∧ d = .int .i64 3 ∧ HLe σ0 τ) ∨ (¬ noRoom L x ∧ d = .int .i64 0 ∧ RGo σ0 (takeR L x) q τ)) := by
  refine pcall_of (Z := Zs) ok27 fun hcl hbl => ?_
  simp -dsimp only [L27, aggS, encSS, ↓preB, postB, genB, ↓reduceIte, Nat.reduceEqDiff, Int.reduceToNat, Int.reduceLE, Int.reduceLT, Nat.reduceAdd, Nat.reduceLeDiff, intBin, strBin, unD, extractD, lit1, lit2, lit3, keptD, boxR, D.one, D.pub1, D.cells, splice, cutOwn]
  have hle1 : HLe σ (σ.new (.cells 51 [encSS x.word, .str x.tag, .int .i64 x.many])) := HLe.self_new _ hcl
  have h1 := h.less hle1
  have g3 : (σ.new (.cells 51 [encSS x.word, .str x.tag, .int .i64 x.many])).get σ.next = some (.cells 51 [encSS x.word, .str x.tag, .int .i64 x.many]) := Heap.new_same _ _
  have hn1 : (σ.new (.cells 51 [encSS x.word, .str x.tag, .int .i64 x.many])).next = σ.next + 1 := rfl
  refine PCall.use (find_c L q x (by omega) _ h1.at) ?_
  rintro _ _ ⟨rfl, rfl⟩
  have hb0 := hF.le [] noB
  have hwt : IntKind.i64.wrap (tot L + x.many) = tot L + x.many := wrap64_in (by unfold tot; omega) (by unfold tot; omega)
  obtain ⟨s1, hs1⟩ : ∃ s1, σ.new (.cells 51 [encSS x.word, .str x.tag, .int .i64 x.many]) = s1 := ⟨_, rfl⟩
  have hs1' : σ.new (.cells 51 [.sl .no x.word.length (x.word.map .str), .str x.tag, .int .i64 x.many]) = s1 := hs1
  rw [hs1] at hle1 h1 g3 hn1
  simp -dsimp only [hs1', ↓preB, postB, genB, ↓reduceIte, Nat.reduceEqDiff, Int.reduceToNat, Int.reduceLE, Int.reduceLT, Nat.reduceAdd, Nat.reduceLeDiff, intBin, strBin, unD, extractD, lit1, lit2, lit3, keptD, boxR, D.one, D.pub1, D.cells, splice, cutOwn]
  refine draw_s ?_
  simp -dsimp only [g3, encSS, ↓preB, postB, genB, ↓reduceIte, Nat.reduceEqDiff, Int.reduceToNat, Int.reduceLE, Int.reduceLT, Nat.reduceAdd, Nat.reduceLeDiff, intBin, strBin, unD, extractD, lit1, lit2, lit3, keptD, boxR, D.one, D.pub1, D.cells, splice, cutOwn]
  refine ⟨_, refAll_c L q (by omega) hF s1 h1.at, ?_⟩
  obtain ⟨b1, b2, b3, d, hq, hd⟩ := id h1
  have hnx : σ.next ≤ s1.next := by omega
  have hlen : ∀ g, lenD Zs g #[22] d = some (.int .i64 (L.length : Int)) := by
    rcases hd with ⟨rfl, rfl⟩ | ⟨_, r, js, _, _, rfl, _⟩ <;> intro g <;> simp [lenD, tz22]
  by_cases c1 : 1000 < tot L + x.many
  · simp -dsimp only [g3, hwt, c1, ↓preB, postB, genB, ↓reduceIte, Nat.reduceEqDiff, Int.reduceToNat, Int.reduceLE, Int.reduceLT, Nat.reduceAdd, Nat.reduceLeDiff, intBin, strBin, unD, extractD, lit1, lit2, lit3, keptD, boxR, D.one, D.pub1, D.cells, splice, cutOwn]
    exact Ret.now hnx (.inl ⟨.inl c1, rfl, b1⟩)
  cases c2 : (findR L x).2
  · by_cases c3 : 200 ≤ L.length
    · have c3' : (200 : Int) ≤ (L.length : Int) := by omega
      simp -dsimp only [g3, hwt, c1, c2, hq, hlen, c3', ↓preB, postB, genB, ↓reduceIte, Nat.reduceEqDiff, Int.reduceToNat, Int.reduceLE, Int.reduceLT, Nat.reduceAdd, Nat.reduceLeDiff, intBin, strBin, unD, extractD, lit1, lit2, lit3, keptD, boxR, D.one, D.pub1, D.cells, splice, cutOwn]
      exact Ret.now hnx (.inl ⟨.inr ⟨c2, c3⟩, rfl, b1⟩)
    have c3' : ¬ (200 : Int) ≤ (L.length : Int) := by omega
    have hnr : ¬ noRoom L x := fun h => h.elim c1 fun h => c3 h.2
    have hlt1 : ∀ r o, s1.get r = some o → r < s1.next := by
      rw [← hs1]
      intro r o hr
      rw [Heap.new_get] at hr
      rw [Heap.next_new]
      split at hr
      · omega
      · have := hcl.lt r o hr; omega
    simp -dsimp only [g3, hwt, c1, c2, hq, hlen, c3', encSS, ↓preB, postB, genB, ↓reduceIte, Nat.reduceEqDiff, Int.reduceToNat, Int.reduceLE, Int.reduceLT, Nat.reduceAdd, Nat.reduceLeDiff, intBin, strBin, unD, extractD, lit1, lit2, lit3, keptD, boxR, D.one, D.pub1, D.cells, splice, cutOwn]
    refine app_copy tz23 rfl tz9 rfl rfl (by decide) (fedBy_sl tz23 rfl (by simp)) (by simp only []; omega) (by simp only [big]; omega) ?_
    have hself : s1.set σ.next (.cells 51 [.sl .no x.word.length (x.word.map .str), .str x.tag, .int .i64 x.many]) = s1 := heap_set_self g3
    obtain ⟨y1, y2, e1, e2, e3⟩ := rparts_ok hd (findR_le L x)
    simp -dsimp only [g3, hself, hq, e1, encSS, ↓preB, postB, genB, ↓reduceIte, Nat.reduceEqDiff, Int.reduceToNat, Int.reduceLE, Int.reduceLT, Nat.reduceAdd, Nat.reduceLeDiff, intBin, strBin, unD, extractD, lit1, lit2, lit3, keptD, boxR, D.one, D.pub1, D.cells, splice, cutOwn]
    refine AccR.appendAny (AccR.nil (HLe.refl s1)) hlt1 tz22 rfl tz51 rfl rfl rfl (by decide) (e3 _ fun _ _ h => h).1 (by have := findR_le L x; simp only []; omega) (by have := findR_le L x; simp only [big]; omega) fun d1 s2 hA1 => ?_
    have g32 := hA1.le.get _ _ g3
    simp -dsimp only [g32, encSS, bsS1, ↓preB, postB, genB, ↓reduceIte, Nat.reduceEqDiff, Int.reduceToNat, Int.reduceLE, Int.reduceLT, Nat.reduceAdd, Nat.reduceLeDiff, intBin, strBin, unD, extractD, lit1, lit2, lit3, keptD, boxR, D.one, D.pub1, D.cells, splice, cutOwn]
    refine hA1.appendAny hlt1 tz22 rfl tz51 rfl rfl rfl (by decide) (fedBy_sl (m := 1) tz22 rfl rfl) (by have := findR_le L x; simp only []; omega) (by have := findR_le L x; simp only [big]; omega) fun d2 s3 hA2 => ?_
    have hq3 := hA2.le.get _ _ hq
    simp -dsimp only [hq3, e2, ↓preB, postB, genB, ↓reduceIte, Nat.reduceEqDiff, Int.reduceToNat, Int.reduceLE, Int.reduceLT, Nat.reduceAdd, Nat.reduceLeDiff, intBin, strBin, unD, extractD, lit1, lit2, lit3, keptD, boxR, D.one, D.pub1, D.cells, splice, cutOwn]
    refine hA2.appendAny hlt1 tz22 rfl tz51 rfl rfl rfl (by decide) (e3 _ fun r o h => hA2.le.get r o h).2 (by have := findR_le L x; simp only []; omega) (by have := findR_le L x; simp only [big]; omega) fun d3 s4 hA3 => ?_
    obtain ⟨r', js', f1, f2, rfl, f3⟩ := hA3.row (by omega)
    have hq4 := hA3.le.get _ _ hq
    simp -dsimp only [hq4, ↓preB, postB, genB, ↓reduceIte, Nat.reduceEqDiff, Int.reduceToNat, Int.reduceLE, Int.reduceLT, Nat.reduceAdd, Nat.reduceLeDiff, intBin, strBin, unD, extractD, lit1, lit2, lit3, keptD, boxR, D.one, D.pub1, D.cells, splice, cutOwn]
    have hrq : r' ≠ q := fun e => by rw [e, hq] at f1; cases f1
    have hlen2 : 0 + (findR L x).1 + 1 + (L.length - (findR L x).1) = (takeR L x).length := by
      rw [takeR_len, c2]; have := findR_le L x; simp; omega
    have hcells : [] ++ cellsS (L.take (findR L x).1) ++ [.sl .no x.word.length (x.word.map .str), .str x.tag, .int .i64 x.many] ++ cellsS (L.drop (findR L x).1) = cellsS (takeR L x) := by
      rw [takeR, c2, if_neg (by simp), cellsS_append]
      simp [cellsS, encSS]
    refine Ret.now (by rw [Heap.next_set]; exact Nat.le_trans hnx hA3.le.next) (.inr ⟨hnr, rfl, ?_, b2, ?_, _, Heap.set_same _ _ _, .inr ⟨takeR_ne _ _, r', js', hrq, ?_, ?_, ?_⟩⟩)
    · exact (b1.trans hA3.le).set _ b2
    · rw [Heap.next_set]; exact Nat.lt_of_lt_of_le b3 hA3.le.next
    · cases hz : σ0.get r' with
      | none => rfl
      | some o => rw [b1.get _ _ hz] at f1; cases f1
    · rw [← hlen2, Nat.zero_add]
    · rw [Heap.set_ne _ _ hrq, f3, hcells]
  · have hlt := findR_lt c2
    rcases hd with ⟨rfl, rfl⟩ | ⟨hne, r, js, hrq, hr0, rfl, hr⟩
    · simp at hlt
    have hnr : ¬ noRoom L x := fun h => h.elim c1 fun h => by rw [c2] at h; cases h.1
    obtain ⟨d0, d1, d2⟩ := cellsS_j hlt js
    have hl := cellsS_len L
    have hc : (cellsS L ++ js).length = L.length * 3 + js.length := by rw [List.length_append, hl]
    have hm1 : 1 ≤ L[(findR L x).1].many := hF.1 _ (List.getElem_mem hlt)
    have hm2 : L[(findR L x).1].many ≤ 1000 := by
      have h1 := (hF.take ((findR L x).1 + 1)).2
      rw [take_snoc hlt, tot, cnt_append, cnt_one, one_all] at h1
      have h2 := ((hF.take (findR L x).1).le [] noB).1
      omega
    have hwm : IntKind.i64.wrap (L[(findR L x).1].many + x.many) = L[(findR L x).1].many + x.many := wrap64_in (by omega) (by omega)
    simp -dsimp only [g3, hwt, c1, c2, hq, encSS, ↓preB, postB, genB, ↓reduceIte, Nat.reduceEqDiff, Int.reduceToNat, Int.reduceLE, Int.reduceLT, Nat.reduceAdd, Nat.reduceLeDiff, intBin, strBin, unD, extractD, lit1, lit2, lit3, keptD, boxR, D.one, D.pub1, D.cells, splice, cutOwn]
    refine draw_t 13 (by decide) ?_
    simp -dsimp only [g3, hwt, c1, c2, hq, hr, hlt, d2, hwm, encSS, ↓preB, postB, genB, ↓reduceIte, Nat.reduceEqDiff, Int.reduceToNat, Int.reduceLE, Int.reduceLT, Nat.reduceAdd, Nat.reduceLeDiff, intBin, strBin, unD, extractD, lit1, lit2, lit3, keptD, boxR, D.one, D.pub1, D.cells, splice, cutOwn]
    refine ⟨by omega, ?_⟩
    rw [splice_one (by omega)]
    have hset : (cellsS L ++ js).set ((findR L x).1 * 3 + 2) (.int .i64 (L[(findR L x).1].many + x.many)) = cellsS (takeR L x) ++ js := by
      rw [List.set_append_left _ _ (by omega)]
      congr 1
      have := cellsS_set x.many hlt
      rw [List.getElem?_eq_getElem hlt] at this
      rw [takeR, c2, if_pos rfl]
      exact this
    rw [hset]
    have hlen2 : L.length = (takeR L x).length := by rw [takeR_len, c2]; rfl
    refine Ret.now (by rw [Heap.next_set]; exact hnx) (.inr ⟨hnr, rfl, b1.set _ hr0, b2, by rw [Heap.next_set]; exact b3, _, by rw [Heap.set_ne _ _ (Ne.symm hrq)]; exact hq, .inr ⟨takeR_ne _ _, r, js, hrq, hr0, by rw [hlen2], Heap.set_same _ _ _⟩⟩)

theorem sumE_big : ∀ {l : List Smp} (a : Int), l.any (fun x => decide (1000 < x.many)) = true → sumE l a = 3
  | [], a, h => by simp at h
  | x :: l, a, h => by
    simp only [sumE]
    split
    · rfl
    · rename_i h1
      split
      · rfl
      · rw [List.any_cons, decide_eq_false h1, Bool.false_or] at h
        exact sumE_big _ h
theorem rowsE_bad {l : List Smp} (h : rowsE l ≠ 0) : newE l = rowsE l := by
  unfold rowsE at h ⊢
  unfold newE badS
  split
  · rfl
  · rename_i h1
    rw [if_neg h1] at h
    split
    · rfl
    · rename_i h2
      rw [if_neg h2] at h
      split
      · rfl
      · rename_i h3
        rw [if_neg h3] at h
        split
        · rename_i h4; exact sumE_big 0 h4
        · rename_i h4; rw [if_neg h4] at h; exact absurd rfl h
theorem rowsE_ok {l : List Smp} (h : rowsE l = 0) : l.length ≤ 200 ∧ (∀ x ∈ l, fineS x ∧ x.many ≤ 1000) ∧ newE l = sumE l 0 := by
  unfold rowsE at h
  split at h
  · cases h
  · rename_i h1
    split at h
    · rename_i h2; exact absurd h h2
    · rename_i h2
      split at h
      · cases h
      · rename_i h3
        split at h
        · cases h
        · rename_i h4
          have e1 : newE l = sumE l 0 := by unfold newE badS; rw [if_neg h1, if_neg h2, if_neg h3]
          refine ⟨by omega, fun x hx => ?_, e1⟩
          have a1 : badW x.word = 0 := badLL_zero (Classical.not_not.1 h2) _ (List.mem_map.2 ⟨x, hx, rfl⟩)
          have a2 : oddS x = false := by
            simp only [Bool.not_eq_true, List.any_eq_false] at h3
            simpa using h3 x hx
          have a3 : ¬ 1000 < x.many := by
            simp only [Bool.not_eq_true, List.any_eq_false] at h4
            simpa using h4 x hx
          simp only [oddS, Bool.or_eq_false_iff, Bool.not_eq_false', decide_eq_false_iff_not] at a2
          exact ⟨⟨a1, a2.1, by omega⟩, by omega⟩
theorem allR_len (l : List Smp) : (allR l).length ≤ l.length := by
  have : ∀ (l L : List Smp), (l.foldl takeR L).length ≤ L.length + l.length := fun l => by
    induction l with
    | nil => intro L; simp
    | cons x l ih =>
      intro L
      rw [List.foldl_cons]
      have h1 := ih (takeR L x)
      have h2 := takeR_len L x
      simp only [List.length_cons]
      split at h2 <;> omega
  simpa [allR] using this l []
theorem takeR_pos : ∀ {L : List Smp} {x : Smp}, (∀ y ∈ L, 1 ≤ y.many) → 1 ≤ x.many → ∀ y ∈ takeR L x, 1 ≤ y.many
  | [], x, _, hx, y, hy => by
    simp [takeR, findR] at hy
    subst hy; exact hx
  | z :: L, x, h, hx, y, hy => by
    have hz := h z List.mem_cons_self
    have hL : ∀ y ∈ L, 1 ≤ y.many := fun y hy => h y (List.mem_cons_of_mem _ hy)
    rw [takeR_cons] at hy
    split at hy
    · rcases List.mem_cons.1 hy with rfl | hy
      · simp only [moreS]; omega
      · exact hL y hy
    · split at hy
      · rcases List.mem_cons.1 hy with rfl | hy
        · exact hx
        · exact h y hy
      · rcases List.mem_cons.1 hy with rfl | hy
        · exact hz
        · exact takeR_pos hL hx y hy
theorem allR_pos {l : List Smp} (h : ∀ y ∈ l, 1 ≤ y.many) : ∀ y ∈ allR l, 1 ≤ y.many := by
  have : ∀ (l L : List Smp), (∀ y ∈ L, 1 ≤ y.many) → (∀ y ∈ l, 1 ≤ y.many) → ∀ y ∈ l.foldl takeR L, 1 ≤ y.many := fun l => by
    induction l with
    | nil => intro L hL _; exact hL
    | cons x l ih =>
      intro L hL hl
      rw [List.foldl_cons]
      exact ih _ (takeR_pos hL (hl x List.mem_cons_self)) fun y hy => hl y (List.mem_cons_of_mem _ hy)
  exact this l [] (fun y hy => by cases hy) h
theorem allR_fine {l : List Smp} (h : ∀ y ∈ l, 1 ≤ y.many) (h2 : tot l ≤ 1000) : Fine (allR l) := ⟨allR_pos h, by rw [tot, cnt_allR]; exact h2⟩
theorem tot_take {l : List Smp} {k : Nat} (h : k < l.length) : tot (l.take (k + 1)) = tot (l.take k) + l[k].many := by
  rw [take_snoc h, tot, cnt_append, cnt_one, one_all]; rfl

theorem refNew_c (l : List Smp) (σ : Heap) : PCall Zs 11 [encS l] σ (fun d τ => HLe σ τ ∧ ((newE l ≠ 0 ∧ d = .tup [.nilptr, .int .i64 (newE l)]) ∨ (newE l = 0 ∧ ∃ q, d = .tup [.ptr q 0, .int .i64 0] ∧ RGo σ (allR l) q τ))) := by
  refine pcall_of (Z := Zs) ok11 fun hcl hbl => ?_
  simp -dsimp only [L11, ↓preB, postB, genB, ↓reduceIte, Nat.reduceEqDiff, Int.reduceToNat, Int.reduceLE, Int.reduceLT, Nat.reduceAdd, Nat.reduceLeDiff, intBin, strBin, unD, extractD, lit1, lit2, lit3, keptD, boxR, D.one, D.pub1, D.cells, splice, cutOwn]
  refine Fn.use (rows_c l) ?_
  by_cases c0 : rowsE l = 0
  · obtain ⟨h200, hfine, hnew⟩ := rowsE_ok c0
    have c0' : (rowsE l != 0) = false := by simpa using c0
    have hpos1 : ∀ x ∈ l, 1 ≤ x.many := fun x hx => (hfine x hx).1.2.2
    have hb60 : aBuilt Zs 60 [] = some [.sl .nil 0 []] := by rfl
    simp -dsimp only [c0', hb60, ↓preB, postB, genB, ↓reduceIte, Nat.reduceEqDiff, Int.reduceToNat, Int.reduceLE, Int.reduceLT, Nat.reduceAdd, Nat.reduceLeDiff, intBin, strBin, unD, extractD, lit1, lit2, lit3, keptD, boxR, D.one, D.pub1, D.cells, splice, cutOwn]
    refine pwp_loopG (fun k env s => k ≤ l.length ∧ RGo σ (allR (l.take k)) σ.next s ∧ tot (l.take k) ≤ 1000 ∧ sumE (l.drop k) (tot (l.take k)) = sumE l 0 ∧ env 6 = .int .i64 (k:Nat) ∧ env 5 = .ptr σ.next 0 ∧ env 0 = encS l) (fun k => l.length - k) 0 ?_ ?_
    · have hR : RGo σ [] σ.next (σ.new (.cells 60 [.sl .nil 0 []])) := ⟨HLe.self_new _ hcl, hcl.none (Nat.le_refl _), by rw [Heap.next_new]; omega, _, Heap.new_same _ _, .inl ⟨rfl, rfl⟩⟩
      simp only [upd_apply, envOf_apply, Nat.reduceEqDiff, if_true, if_false]
      refine ⟨Nat.zero_le _, hR, ?_, ?_, ?_⟩
      · simp [tot, cnt]
      · simp [tot, cnt]
      · simp
    · rintro k env s ⟨hk, hR, ht, hp, h6, h5, h0⟩
      rcases Nat.lt_or_ge k l.length with hlt | hge
      · have hd := cellsS_at hlt
        have hposc := cellsS_pos hlt
        obtain ⟨hfk, hmk⟩ := hfine _ (List.getElem_mem hlt)
        have hFk : Fine (allR (l.take k)) := allR_fine (fun y hy => hpos1 y (List.mem_of_mem_take hy)) ht
        have hlk := allR_len (l.take k)
        have hlk2 : (l.take k).length ≤ k := List.length_take_le _ _
        simp -dsimp only [h6, h5, h0, encS, hlt, hd, hposc, ↓preB, postB, genB, ↓reduceIte, Nat.reduceEqDiff, Int.reduceToNat, Int.reduceLE, Int.reduceLT, Nat.reduceAdd, Nat.reduceLeDiff, intBin, strBin, unD, extractD, lit1, lit2, lit3, keptD, boxR, D.one, D.pub1, D.cells, splice, cutOwn]
        intro hbig
        refine PCall.use (take_c (allR (l.take k)) σ.next l[k] (by omega) hFk hfk.2.2 hmk (badW_len hfk.1) σ s hR) ?_
        rw [List.drop_eq_getElem_cons hlt, sumE, if_neg (by omega)] at hp
        have htot : tot (allR (l.take k)) = tot (l.take k) := by rw [tot, cnt_allR]; rfl
        rintro d τ (⟨hn, rfl, hle⟩ | ⟨hn, rfl, hR'⟩)
        · have hov : 1000 < tot (l.take k) + l[k].many := by
            rcases hn with hn | ⟨_, hn⟩
            · rw [htot] at hn; exact hn
            · omega
          rw [if_pos hov] at hp
          have e1 : newE l = 3 := by rw [hnew, ← hp]
          simp -dsimp only [h6, h5, h0, encS, hlt, hd, hposc, ↓preB, postB, genB, ↓reduceIte, Nat.reduceEqDiff, Int.reduceToNat, Int.reduceLE, Int.reduceLT, Nat.reduceAdd, Nat.reduceLeDiff, intBin, strBin, unD, extractD, lit1, lit2, lit3, keptD, boxR, D.one, D.pub1, D.cells, splice, cutOwn]
          exact Ret.now hle.next ⟨hle, .inl ⟨by rw [e1]; decide, by rw [e1]⟩⟩
        · have hov : ¬ 1000 < tot (l.take k) + l[k].many := fun h => hn (.inl (by rw [htot]; exact h))
          rw [if_neg hov] at hp
          simp -dsimp only [h6, h5, h0, encS, hlt, hd, hposc, ↓preB, postB, genB, ↓reduceIte, Nat.reduceEqDiff, Int.reduceToNat, Int.reduceLE, Int.reduceLT, Nat.reduceAdd, Nat.reduceLeDiff, intBin, strBin, unD, extractD, lit1, lit2, lit3, keptD, boxR, D.one, D.pub1, D.cells, splice, cutOwn]
          refine ⟨k + 1, ⟨by omega, ?_, ?_, ?_, wrap64_succ (by omega)⟩, by omega⟩
          · rw [take_snoc hlt, allR_snoc]; exact hR'
          · rw [tot_take hlt]; omega
          · rw [tot_take hlt]; exact hp
      · rw [List.drop_of_length_le hge, sumE] at hp
        rw [List.take_of_length_le hge] at hR
        have e1 : newE l = 0 := by rw [hnew, ← hp]
        simp -dsimp only [h6, h5, h0, encS, Nat.not_lt.2 hge, ↓preB, postB, genB, ↓reduceIte, Nat.reduceEqDiff, Int.reduceToNat, Int.reduceLE, Int.reduceLT, Nat.reduceAdd, Nat.reduceLeDiff, intBin, strBin, unD, extractD, lit1, lit2, lit3, keptD, boxR, D.one, D.pub1, D.cells, splice, cutOwn]
        intros
        exact Ret.now hR.1.next ⟨hR.1, .inr ⟨e1, _, rfl, hR⟩⟩
  · have c0' : (rowsE l != 0) = true := by simpa using c0
    simp -dsimp only [c0', ↓preB, postB, genB, ↓reduceIte, Nat.reduceEqDiff, Int.reduceToNat, Int.reduceLE, Int.reduceLT, Nat.reduceAdd, Nat.reduceLeDiff, intBin, strBin, unD, extractD, lit1, lit2, lit3, keptD, boxR, D.one, D.pub1, D.cells, splice, cutOwn]
    exact Ret.now (Nat.le_refl _) ⟨HLe.refl _, .inl ⟨by rw [rowsE_bad c0]; exact c0, by rw [rowsE_bad c0]⟩⟩
end Go.Proofs.Ythchlpikcpidaaa.Vs
