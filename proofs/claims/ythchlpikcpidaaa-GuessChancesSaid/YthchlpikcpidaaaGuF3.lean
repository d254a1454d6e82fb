/- numbers of Ythchlpikcpidaaa -/
/- The reference's guesser: its samples in memory, where one stands, how often. -/
import Derived.Test.YthchlpikcpidaaaGuF2
namespace Go.Proofs.Ythchlpikcpidaaa.Vs
set_option linter.unusedVariables false
set_option linter.unusedSimpArgs false
set_option maxRecDepth 20000

/-- What the reference finds wrong with samples by themselves. -/
def rowsE (l : List Smp) : Int := if 200 < l.length then 3 else if badLL (l.map (·.word)) ≠ 0 then badLL (l.map (·.word)) else if l.any oddS then 1 else if l.any (fun x => decide (1000 < x.many)) then 3 else 0
theorem rows_c (l : List Smp) : Fn Zs 26 [encS l] (.int .i64 (rowsE l)) := by
  refine fn_of (Z := Zs) ok26 fun σ hcl hbl => ?_
  simp -dsimp only [L26, encS, ↓preB, postB, genB, ↓reduceIte, Nat.reduceEqDiff, Int.reduceToNat, Int.reduceLE, Int.reduceLT, Nat.reduceAdd, Nat.reduceLeDiff, intBin, strBin, unD, extractD, lit1, lit2, lit3, keptD, boxR, D.one, D.pub1, D.cells, splice, cutOwn]
  intro hbig
  by_cases c0 : (200 : Int) < l.length
  · simp -dsimp only [c0, ↓preB, postB, genB, ↓reduceIte, Nat.reduceEqDiff, Int.reduceToNat, Int.reduceLE, Int.reduceLT, Nat.reduceAdd, Nat.reduceLeDiff, intBin, strBin, unD, extractD, lit1, lit2, lit3, keptD, boxR, D.one, D.pub1, D.cells, splice, cutOwn]
    exact Ret.is (by rw [rowsE, if_pos (by omega)])
  simp -dsimp only [c0, ↓preB, postB, genB, ↓reduceIte, Nat.reduceEqDiff, Int.reduceToNat, Int.reduceLE, Int.reduceLT, Nat.reduceAdd, Nat.reduceLeDiff, intBin, strBin, unD, extractD, lit1, lit2, lit3, keptD, boxR, D.one, D.pub1, D.cells, splice, cutOwn]
  have hrest : rowsE l = if badLL (l.map (·.word)) ≠ 0 then badLL (l.map (·.word)) else if l.any oddS then 1 else if l.any (fun x => decide (1000 < x.many)) then 3 else 0 := by rw [rowsE, if_neg (by omega)]
  refine pwp_loopG (fun k env s => k ≤ l.length ∧ badLL ((l.drop k).map (·.word)) = badLL (l.map (·.word)) ∧ s = σ ∧ env 3 = .int .i64 (k:Nat) ∧ env 0 = encS l) (fun k => l.length - k) 0 ?_ ?_
  · simp [upd_apply, envOf, encS]
  · rintro k env s ⟨hk, hp, rfl, h3, h0⟩
    rcases Nat.lt_or_ge k l.length with hlt | hge
    · have hd := cellsS_at hlt
      have hpos := cellsS_pos hlt
      rw [List.drop_eq_getElem_cons hlt, List.map_cons, badLL_cons] at hp
      simp -dsimp only [h3, h0, encS, hlt, hd, hpos, hbig, ↓preB, postB, genB, ↓reduceIte, Nat.reduceEqDiff, Int.reduceToNat, Int.reduceLE, Int.reduceLT, Nat.reduceAdd, Nat.reduceLeDiff, intBin, strBin, unD, extractD, lit1, lit2, lit3, keptD, boxR, D.one, D.pub1, D.cells, splice, cutOwn]
      refine Fn.use (refValidateWord_c _) ?_
      cases c2 : (badW l[k].word != 0)
      · rw [c2] at hp
        simp -dsimp only [h3, h0, encS, hlt, hd, hpos, hbig, c2, ↓preB, postB, genB, ↓reduceIte, Nat.reduceEqDiff, Int.reduceToNat, Int.reduceLE, Int.reduceLT, Nat.reduceAdd, Nat.reduceLeDiff, intBin, strBin, unD, extractD, lit1, lit2, lit3, keptD, boxR, D.one, D.pub1, D.cells, splice, cutOwn]
        exact ⟨k + 1, ⟨by omega, by simpa using hp, wrap64_succ (by omega)⟩, by omega⟩
      · rw [c2] at hp
        have hb0 : badW l[k].word ≠ 0 := by simpa using c2
        simp -dsimp only [h3, h0, encS, hlt, hd, hpos, hbig, c2, ↓preB, postB, genB, ↓reduceIte, Nat.reduceEqDiff, Int.reduceToNat, Int.reduceLE, Int.reduceLT, Nat.reduceAdd, Nat.reduceLeDiff, intBin, strBin, unD, extractD, lit1, lit2, lit3, keptD, boxR, D.one, D.pub1, D.cells, splice, cutOwn]
        have e1 : rowsE l = badW l[k].word := by
          have : badLL (l.map (·.word)) = badW l[k].word := by rw [← hp]; rfl
          rw [hrest, this, if_pos hb0]
        exact Ret.is (by rw [e1])
    · rw [List.drop_of_length_le hge] at hp
      have hw0 : badLL (l.map (·.word)) = 0 := by rw [← hp]; rfl
      rw [if_neg (fun h => h hw0)] at hrest
      simp -dsimp only [h3, h0, encS, Nat.not_lt.2 hge, hbig, ↓preB, postB, genB, ↓reduceIte, Nat.reduceEqDiff, Int.reduceToNat, Int.reduceLE, Int.reduceLT, Nat.reduceAdd, Nat.reduceLeDiff, intBin, strBin, unD, extractD, lit1, lit2, lit3, keptD, boxR, D.one, D.pub1, D.cells, splice, cutOwn]
      refine pwp_loopG (fun k env s' => k ≤ l.length ∧ (l.drop k).any oddS = l.any oddS ∧ s' = s ∧ env 5 = .int .i64 (k:Nat) ∧ env 0 = encS l) (fun k => l.length - k) 0 ?_ ?_
      · simp [upd_apply, h0, encS]
      · clear h3 h0 hk hge hp
        rintro k env s' ⟨hk, hp, rfl, h3, h0⟩
        rcases Nat.lt_or_ge k l.length with hlt | hge
        · have hd := cellsS_at hlt
          have hpos := cellsS_pos hlt
          have hd2 : (cellsS l)[k * 3 + 2]? = some (.int .i64 l[k].many) := by
            have := congrArg (fun l => l[2]?) hd
            simpa using this
          rw [any_cons_drop hlt] at hp
          simp -dsimp only [h3, h0, encS, hlt, hd, hd2, hpos, hbig, ↓preB, postB, genB, ↓reduceIte, Nat.reduceEqDiff, Int.reduceToNat, Int.reduceLE, Int.reduceLT, Nat.reduceAdd, Nat.reduceLeDiff, intBin, strBin, unD, extractD, lit1, lit2, lit3, keptD, boxR, D.one, D.pub1, D.cells, splice, cutOwn]
          refine Fn.use (IsName_c _) ?_
          have stop : oddS l[k] = true → rowsE l = 1 := fun h => by
            rw [h, Bool.true_or] at hp
            rw [hrest, if_pos hp.symm]
          cases c1 : isNm l[k].tag
          · simp -dsimp only [h3, h0, encS, hlt, hd, hd2, hpos, hbig, c1, ↓preB, postB, genB, ↓reduceIte, Nat.reduceEqDiff, Int.reduceToNat, Int.reduceLE, Int.reduceLT, Nat.reduceAdd, Nat.reduceLeDiff, intBin, strBin, unD, extractD, lit1, lit2, lit3, keptD, boxR, D.one, D.pub1, D.cells, splice, cutOwn]
            exact Ret.is (by rw [stop (by simp [oddS, c1])])
          · by_cases c2 : l[k].many < 1
            · simp -dsimp only [h3, h0, encS, hlt, hd, hd2, hpos, hbig, c1, c2, ↓preB, postB, genB, ↓reduceIte, Nat.reduceEqDiff, Int.reduceToNat, Int.reduceLE, Int.reduceLT, Nat.reduceAdd, Nat.reduceLeDiff, intBin, strBin, unD, extractD, lit1, lit2, lit3, keptD, boxR, D.one, D.pub1, D.cells, splice, cutOwn]
              exact Ret.is (by rw [stop (by simp [oddS, c1, c2])])
            · simp -dsimp only [h3, h0, encS, hlt, hd, hd2, hpos, hbig, c1, c2, ↓preB, postB, genB, ↓reduceIte, Nat.reduceEqDiff, Int.reduceToNat, Int.reduceLE, Int.reduceLT, Nat.reduceAdd, Nat.reduceLeDiff, intBin, strBin, unD, extractD, lit1, lit2, lit3, keptD, boxR, D.one, D.pub1, D.cells, splice, cutOwn]
              refine ⟨k + 1, ⟨by omega, ?_, wrap64_succ (by omega)⟩, by omega⟩
              rw [← hp]; simp [oddS, c1, c2]
        · rw [List.drop_of_length_le hge] at hp
          have ho0 : l.any oddS = false := by rw [← hp]; rfl
          rw [if_neg (by rw [ho0]; simp)] at hrest
          simp -dsimp only [h3, h0, encS, Nat.not_lt.2 hge, hbig, ↓preB, postB, genB, ↓reduceIte, Nat.reduceEqDiff, Int.reduceToNat, Int.reduceLE, Int.reduceLT, Nat.reduceAdd, Nat.reduceLeDiff, intBin, strBin, unD, extractD, lit1, lit2, lit3, keptD, boxR, D.one, D.pub1, D.cells, splice, cutOwn]
          refine pwp_loopG (fun k env s => k ≤ l.length ∧ (l.drop k).any (fun x => decide (1000 < x.many)) = l.any (fun x => decide (1000 < x.many)) ∧ s = s' ∧ env 6 = .int .i64 (k:Nat) ∧ env 0 = encS l) (fun k => l.length - k) 0 ?_ ?_
          · simp [upd_apply, h0, encS]
          · clear h3 h0 hk hge hp
            rintro k env s ⟨hk, hp, rfl, h3, h0⟩
            rcases Nat.lt_or_ge k l.length with hlt | hge
            · have hd := cellsS_at hlt
              have hpos := cellsS_pos hlt
              have hd2 : (cellsS l)[k * 3 + 2]? = some (.int .i64 l[k].many) := by
                have := congrArg (fun l => l[2]?) hd
                simpa using this
              rw [any_cons_drop hlt] at hp
              by_cases c1 : 1000 < l[k].many
              · rw [decide_eq_true c1, Bool.true_or] at hp
                simp -dsimp only [h3, h0, encS, hlt, hd, hd2, hpos, hbig, c1, ↓preB, postB, genB, ↓reduceIte, Nat.reduceEqDiff, Int.reduceToNat, Int.reduceLE, Int.reduceLT, Nat.reduceAdd, Nat.reduceLeDiff, intBin, strBin, unD, extractD, lit1, lit2, lit3, keptD, boxR, D.one, D.pub1, D.cells, splice, cutOwn]
                exact Ret.is (by rw [hrest, if_pos hp.symm])
              · rw [decide_eq_false c1, Bool.false_or] at hp
                simp -dsimp only [h3, h0, encS, hlt, hd, hd2, hpos, hbig, c1, ↓preB, postB, genB, ↓reduceIte, Nat.reduceEqDiff, Int.reduceToNat, Int.reduceLE, Int.reduceLT, Nat.reduceAdd, Nat.reduceLeDiff, intBin, strBin, unD, extractD, lit1, lit2, lit3, keptD, boxR, D.one, D.pub1, D.cells, splice, cutOwn]
                exact ⟨k + 1, ⟨by omega, hp, wrap64_succ (by omega)⟩, by omega⟩
            · rw [List.drop_of_length_le hge] at hp
              simp -dsimp only [h3, h0, encS, Nat.not_lt.2 hge, hbig, ↓preB, postB, genB, ↓reduceIte, Nat.reduceEqDiff, Int.reduceToNat, Int.reduceLE, Int.reduceLT, Nat.reduceAdd, Nat.reduceLeDiff, intBin, strBin, unD, extractD, lit1, lit2, lit3, keptD, boxR, D.one, D.pub1, D.cells, splice, cutOwn]
              exact Ret.is (by rw [hrest, if_neg (by rw [← hp]; simp)])

theorem bl_total : ∀ a b : List UInt8, Op.bytesLess b a = !(Op.bytesLess a b || decide (a = b))
  | [], [] => by simp [Op.bytesLess]
  | [], _ :: _ => by simp [Op.bytesLess]
  | _ :: _, [] => by simp [Op.bytesLess]
  | x :: a, y :: b => by
    have ih := bl_total a b
    by_cases h1 : x = y
    · subst h1
      have h0 : ¬ x < x := UInt8.lt_irrefl x
      simp [Op.bytesLess, ih, h0]
    · have h1' : ¬ y = x := fun e => h1 e.symm
      by_cases h2 : x < y
      · have h3 : ¬ y < x := fun h => by rw [UInt8.lt_iff_toNat_lt] at h h2; omega
        simp [Op.bytesLess, h1, h1', h2, h3]
      · have h3 : y < x := by
          have hne : x.toNat ≠ y.toNat := fun e => h1 (UInt8.toNat_inj.1 e)
          rw [UInt8.lt_iff_toNat_lt] at h2 ⊢; omega
        simp [Op.bytesLess, h1, h1', h2, h3]
theorem ba_beq (a b : ByteArray) : (a == b) = decide (a.data.toList = b.data.toList) := by
  cases h : (a == b) with
  | true => rw [ba_eq h]; simp
  | false =>
    symm
    rw [decide_eq_false_iff_not]
    intro e
    have : a = b := by cases a; cases b; congr 1; exact Array.toList_inj.1 e
    rw [this, ba_refl] at h
    cases h
theorem strGt_eq (a b : ByteArray) : (!(strLt b a || b == a)) = strLt a b := by
  have h := bl_total b.data.toList a.data.toList
  unfold strLt
  rw [h, ba_beq]
/-- The reference's guesser in memory. -/
def RGat (L : List Smp) (q : Nat) (σ : Heap) : Prop := ∃ d, σ.get q = some (.cells 60 [d]) ∧ ((L = [] ∧ d = .sl .nil 0 []) ∨ (L ≠ [] ∧ ∃ r js, r ≠ q ∧ d = .row r 0 L.length none 3 ∧ σ.get r = some (.cells 51 (cellsS L ++ js))))
theorem cellsS_j {L : List Smp} {k : Nat} (h : k < L.length) (js : List D) : (cellsS L ++ js)[k * 3]? = some (encSS L[k].word) ∧ (cellsS L ++ js)[k * 3 + 1]? = some (.str L[k].tag) ∧ (cellsS L ++ js)[k * 3 + 2]? = some (.int .i64 L[k].many) := by
  have hd := cellsS_at h
  have hl := cellsS_len L
  refine ⟨?_, ?_, ?_⟩
  · rw [List.getElem?_append_left (by omega)]
    have := congrArg (fun l => l[0]?) hd
    simpa using this
  · rw [List.getElem?_append_left (by omega)]
    have := congrArg (fun l => l[1]?) hd
    simpa using this
  · rw [List.getElem?_append_left (by omega)]
    have := congrArg (fun l => l[2]?) hd
    simpa using this

theorem RGat.new {L : List Smp} {q : Nat} {σ : Heap} (h : RGat L q σ) (hc : ∀ r o, σ.get r = some o → r < σ.next) (o : AO) : RGat L q (σ.new o) := by
  have key : ∀ r x, σ.get r = some x → (σ.new o).get r = some x := fun r x hr => by rw [Heap.new_get, if_neg (by have := hc r x hr; omega)]; exact hr
  obtain ⟨d, hq, hd⟩ := h
  refine ⟨d, key _ _ hq, ?_⟩
  rcases hd with h | ⟨h1, r, js, h2, h3, h4⟩
  · exact .inl h
  · exact .inr ⟨h1, r, js, h2, h3, key _ _ h4⟩

theorem find_c (L : List Smp) (q : Nat) (x : Smp) (hL : L.length ≤ 100000) (σ : Heap) (h : RGat L q σ) : PCall Zs 45 [.ptr q 0, aggS x] σ (fun d τ => d = .tup [.int .i64 ((findR L x).1 : Int), .bool (findR L x).2] ∧ τ = σ) := by
  refine pcall_of (Z := Zs) ok45 fun hcl hbl => ?_
  simp -dsimp only [L45, aggS, encSS, ↓preB, postB, genB, ↓reduceIte, Nat.reduceEqDiff, Int.reduceToNat, Int.reduceLE, Int.reduceLT, Nat.reduceAdd, Nat.reduceLeDiff, intBin, strBin, unD, extractD, lit1, lit2, lit3, keptD, boxR, D.one, D.pub1, D.cells, splice, cutOwn]
  have hle : HLe σ (σ.new (.cells 51 [encSS x.word, .str x.tag, .int .i64 x.many])) := HLe.self_new _ hcl
  have h' := h.new hcl.lt (.cells 51 [encSS x.word, .str x.tag, .int .i64 x.many])
  have g3 : (σ.new (.cells 51 [encSS x.word, .str x.tag, .int .i64 x.many])).get σ.next = some (.cells 51 [encSS x.word, .str x.tag, .int .i64 x.many]) := Heap.new_same _ _
  obtain ⟨s1, hs1⟩ : ∃ s1, σ.new (.cells 51 [encSS x.word, .str x.tag, .int .i64 x.many]) = s1 := ⟨_, rfl⟩
  rw [hs1] at hle h' g3
  obtain ⟨d, hq, hd⟩ := h'
  refine pwp_loopG (fun k env s => k ≤ L.length ∧ findR L x = (k + (findR (L.drop k) x).1, (findR (L.drop k) x).2) ∧ s = s1 ∧ env 6 = .int .i64 (k:Nat) ∧ env 3 = .ptr σ.next 0 ∧ env 0 = .ptr q 0) (fun k => L.length - k) 0 ?_ ?_
  · simp [upd_apply, envOf, ← hs1, encSS]
  · rintro k env s ⟨hk, hp, rfl, h6, h3, h0⟩
    rcases hd with ⟨rfl, rfl⟩ | ⟨hne, r, js, hrq, rfl, hr⟩
    · simp -dsimp only [h6, h3, h0, hq, g3, List.length_nil, Nat.not_lt_zero, ↓preB, postB, genB, ↓reduceIte, Nat.reduceEqDiff, Int.reduceToNat, Int.reduceLE, Int.reduceLT, Nat.reduceAdd, Nat.reduceLeDiff, intBin, strBin, unD, extractD, lit1, lit2, lit3, keptD, boxR, D.one, D.pub1, D.cells, splice, cutOwn]
      intros
      exact Ret.told σ _ (Nat.le_refl _) hle hcl (.refl _) (.tup2 (.int _ _) (.bool _)) ⟨by simp [findR], rfl⟩
    · rcases Nat.lt_or_ge k L.length with hlt | hge
      · obtain ⟨d0, d1, d2⟩ := cellsS_j hlt js
        rw [List.drop_eq_getElem_cons hlt] at hp
        simp only [findR] at hp
        simp -dsimp only [h6, h3, h0, hq, hr, g3, hlt, ↓preB, postB, genB, ↓reduceIte, Nat.reduceEqDiff, Int.reduceToNat, Int.reduceLE, Int.reduceLT, Nat.reduceAdd, Nat.reduceLeDiff, intBin, strBin, unD, extractD, lit1, lit2, lit3, keptD, boxR, D.one, D.pub1, D.cells, splice, cutOwn]
        intro hbig
        refine draw_s ?_
        simp -dsimp only [h6, h3, h0, hq, hr, g3, hlt, d0, d1, d2, ↓preB, postB, genB, ↓reduceIte, Nat.reduceEqDiff, Int.reduceToNat, Int.reduceLE, Int.reduceLT, Nat.reduceAdd, Nat.reduceLeDiff, intBin, strBin, unD, extractD, lit1, lit2, lit3, keptD, boxR, D.one, D.pub1, D.cells, splice, cutOwn]
        refine Fn.useS (cmpWd_c _ _) ?_
        simp -dsimp only [h6, h3, h0, hq, hr, g3, hlt, d0, d1, d2, ↓preB, postB, genB, ↓reduceIte, Nat.reduceEqDiff, Int.reduceToNat, Int.reduceLE, Int.reduceLT, Nat.reduceAdd, Nat.reduceLeDiff, intBin, strBin, unD, extractD, lit1, lit2, lit3, keptD, boxR, D.one, D.pub1, D.cells, splice, cutOwn]
        refine draw_s ?_
        have fin : ∀ (i : Int) (b : Bool), i = ((findR L x).1 : Int) → b = (findR L x).2 → Ret σ (fun d τ => d = .tup [.int .i64 ((findR L x).1 : Int), .bool (findR L x).2] ∧ τ = σ) (.tup [.int .i64 i, .bool b]) s := fun i b e1 e2 => by
          subst e1 e2
          exact Ret.told σ _ (Nat.le_refl _) hle hcl (.refl _) (.tup2 (.int _ _) (.bool _)) ⟨rfl, rfl⟩
        have go : (¬ (cmpW L[k].word x.word = 0 ∧ (L[k].tag == x.tag) = true)) → (¬ (0 < cmpW L[k].word x.word ∨ cmpW L[k].word x.word = 0 ∧ strLt x.tag L[k].tag = true)) → findR L x = (k + 1 + (findR (L.drop (k + 1)) x).1, (findR (L.drop (k + 1)) x).2) := fun g1 g2 => by
          rw [if_neg g1, if_neg g2] at hp
          rw [hp]
          simp only [Prod.mk.injEq, and_true]
          omega
        cases c1 : (cmpW L[k].word x.word == 0)
        · have c1' : ¬ cmpW L[k].word x.word = 0 := by simpa using c1
          by_cases c2 : 0 < cmpW L[k].word x.word
          · simp -dsimp only [h6, h3, h0, hq, hr, g3, hlt, d0, d1, d2, c1, ↓preB, postB, genB, ↓reduceIte, Nat.reduceEqDiff, Int.reduceToNat, Int.reduceLE, Int.reduceLT, Nat.reduceAdd, Nat.reduceLeDiff, intBin, strBin, unD, extractD, lit1, lit2, lit3, keptD, boxR, D.one, D.pub1, D.cells, splice, cutOwn]
            refine draw_s ?_
            simp -dsimp only [h6, h3, h0, hq, hr, g3, hlt, d0, d1, d2, c1, c2, ↓preB, postB, genB, ↓reduceIte, Nat.reduceEqDiff, Int.reduceToNat, Int.reduceLE, Int.reduceLT, Nat.reduceAdd, Nat.reduceLeDiff, intBin, strBin, unD, extractD, lit1, lit2, lit3, keptD, boxR, D.one, D.pub1, D.cells, splice, cutOwn]
            rw [if_neg (fun h => c1' h.1), if_pos (.inl c2)] at hp
            exact fin _ _ (by rw [hp]; rfl) (by rw [hp])
          · simp -dsimp only [h6, h3, h0, hq, hr, g3, hlt, d0, d1, d2, c1, ↓preB, postB, genB, ↓reduceIte, Nat.reduceEqDiff, Int.reduceToNat, Int.reduceLE, Int.reduceLT, Nat.reduceAdd, Nat.reduceLeDiff, intBin, strBin, unD, extractD, lit1, lit2, lit3, keptD, boxR, D.one, D.pub1, D.cells, splice, cutOwn]
            refine draw_s ?_
            simp -dsimp only [h6, h3, h0, hq, hr, g3, hlt, d0, d1, d2, c1, c2, ↓preB, postB, genB, ↓reduceIte, Nat.reduceEqDiff, Int.reduceToNat, Int.reduceLE, Int.reduceLT, Nat.reduceAdd, Nat.reduceLeDiff, intBin, strBin, unD, extractD, lit1, lit2, lit3, keptD, boxR, D.one, D.pub1, D.cells, splice, cutOwn]
            exact ⟨k + 1, ⟨by omega, go (fun h => c1' h.1) (fun h => h.elim c2 fun h => c1' h.1), wrap64_succ (by simp only [big] at *; omega)⟩, by omega⟩
        · have c1' : cmpW L[k].word x.word = 0 := by simpa using c1
          have c2 : ¬ 0 < cmpW L[k].word x.word := by omega
          cases c3 : (L[k].tag == x.tag)
          · simp -dsimp only [h6, h3, h0, hq, hr, g3, hlt, d0, d1, d2, c1, c3, ↓preB, postB, genB, ↓reduceIte, Nat.reduceEqDiff, Int.reduceToNat, Int.reduceLE, Int.reduceLT, Nat.reduceAdd, Nat.reduceLeDiff, intBin, strBin, unD, extractD, lit1, lit2, lit3, keptD, boxR, D.one, D.pub1, D.cells, splice, cutOwn]
            refine draw_s ?_
            have hgt : strLt L[k].tag x.tag = !(strLt x.tag L[k].tag) := by
              rw [← strGt_eq x.tag L[k].tag, c3, Bool.or_false, Bool.not_not]
            cases c4 : strLt x.tag L[k].tag
            · have c5 := hgt.trans (congrArg _ c4)
              simp -dsimp only [h6, h3, h0, hq, hr, g3, hlt, d0, d1, d2, c1, c2, c3, c5, Bool.or_false, Bool.or_true, Bool.true_or, ↓preB, postB, genB, ↓reduceIte, Nat.reduceEqDiff, Int.reduceToNat, Int.reduceLE, Int.reduceLT, Nat.reduceAdd, Nat.reduceLeDiff, intBin, strBin, unD, extractD, lit1, lit2, lit3, keptD, boxR, D.one, D.pub1, D.cells, splice, cutOwn]
              exact ⟨k + 1, ⟨by omega, go (fun h => by rw [c3] at h; exact absurd h.2 (by simp)) (fun h => h.elim c2 fun h => by rw [c4] at h; exact absurd h.2 (by simp)), wrap64_succ (by simp only [big] at *; omega)⟩, by omega⟩
            · have c5 := hgt.trans (congrArg _ c4)
              simp -dsimp only [h6, h3, h0, hq, hr, g3, hlt, d0, d1, d2, c1, c2, c3, c5, Bool.or_false, Bool.or_true, Bool.true_or, ↓preB, postB, genB, ↓reduceIte, Nat.reduceEqDiff, Int.reduceToNat, Int.reduceLE, Int.reduceLT, Nat.reduceAdd, Nat.reduceLeDiff, intBin, strBin, unD, extractD, lit1, lit2, lit3, keptD, boxR, D.one, D.pub1, D.cells, splice, cutOwn]
              rw [if_neg (fun h => by rw [c3] at h; exact absurd h.2 (by simp)), if_pos (.inr ⟨c1', c4⟩)] at hp
              exact fin _ _ (by rw [hp]; rfl) (by rw [hp])
          · simp -dsimp only [h6, h3, h0, hq, hr, g3, hlt, d0, d1, d2, c1, c3, ↓preB, postB, genB, ↓reduceIte, Nat.reduceEqDiff, Int.reduceToNat, Int.reduceLE, Int.reduceLT, Nat.reduceAdd, Nat.reduceLeDiff, intBin, strBin, unD, extractD, lit1, lit2, lit3, keptD, boxR, D.one, D.pub1, D.cells, splice, cutOwn]
            rw [if_pos ⟨c1', c3⟩] at hp
            exact fin _ _ (by rw [hp]; rfl) (by rw [hp])
      · rw [List.drop_of_length_le hge] at hp
        simp -dsimp only [h6, h3, h0, hq, hr, g3, Nat.not_lt.2 hge, ↓preB, postB, genB, ↓reduceIte, Nat.reduceEqDiff, Int.reduceToNat, Int.reduceLE, Int.reduceLT, Nat.reduceAdd, Nat.reduceLeDiff, intBin, strBin, unD, extractD, lit1, lit2, lit3, keptD, boxR, D.one, D.pub1, D.cells, splice, cutOwn]
        intros
        exact Ret.told σ _ (Nat.le_refl _) hle hcl (.refl _) (.tup2 (.int _ _) (.bool _)) ⟨by rw [hp]; simp [findR]; omega, rfl⟩
end Go.Proofs.Ythchlpikcpidaaa.Vs
