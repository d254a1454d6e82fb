import Derived.Test.YthchlpikcpidaaaGuR5
/- numbers of Ythchlpikcpidaaa -/
namespace Go.Proofs.Ythchlpikcpidaaa.Vs
set_option linter.unusedVariables false
set_option linter.unusedSimpArgs false
set_option maxRecDepth 100000
theorem len_subM {α : Type} : ∀ {L M : List α}, L.Nodup → (∀ t ∈ L, t ∈ M) → L.length ≤ M.length
  | [], M, _, _ => Nat.zero_le _
  | a :: L, M, hn, hs => by
    rw [List.nodup_cons] at hn
    obtain ⟨M1, M2, rfl⟩ := List.append_of_mem (hs a List.mem_cons_self)
    have := len_subM (L := L) (M := M1 ++ M2) hn.2 fun t ht => by
      have h1 := hs t (List.mem_cons_of_mem _ ht)
      have hne : t ≠ a := fun e => hn.1 (e ▸ ht)
      simp only [List.mem_append, List.mem_cons] at h1 ⊢
      rcases h1 with h1 | h1 | h1
      · exact .inl h1
      · exact absurd h1 hne
      · exact .inr h1
    simp only [List.length_append, List.length_cons] at this ⊢
    omega
theorem big5 {l : List Smp} (hl : ∀ x ∈ l, fineS x) (h200 : l.length ≤ 200) : Big5 (cfL l) := fun L hn hL => by
  have := len_subM (L := L) (M := noB :: tagL l) hn fun t ht => by
    by_cases h : t = noB
    · exact List.mem_cons.2 (.inl h)
    · refine List.mem_cons.2 (.inr ?_)
      have := hL t ht
      rw [cf_tag hl] at this
      exact (cnt_tag (fun x hx => (hl x hx).2.2) h).1 this
  simp [tagL] at this
  omega
theorem some_tag {l : List Smp} (hl : ∀ x ∈ l, fineS x) (h : cfL l noB noB ≠ 0) : ∃ t, t ≠ noB ∧ cfL l noB t ≠ 0 := by
  cases l with
  | nil => exact absurd rfl h
  | cons x l =>
    have hx := hl x List.mem_cons_self
    have htn := nm_ne hx.2.1
    refine ⟨x.tag, htn, ?_⟩
    rw [cf_tag hl]
    exact (cnt_tag (fun x hx => (hl x hx).2.2) htn).2 (by simp [tagL])
theorem askE_w (none : Bool) (w : Wd) : askE none [w] = if badW w ≠ 0 then badW w else if none = true then 4 else 0 := by
  unfold askE
  rw [badLL_one]
end Go.Proofs.Ythchlpikcpidaaa.Vs

/- numbers of Ythchlpikcpidaaa -/
namespace Go.Proofs.Ythchlpikcpidaaa.Vs
set_option linter.unusedVariables false
set_option linter.unusedSimpArgs false
set_option maxRecDepth 100000
/-- The first tag of a word is sure, or not. -/
def SureB (cf : CF) (w : Wd) (b : Bool) : Prop := ∃ L, RankOf cf w L ∧ ∃ h0 : 0 < L.length, b = decide (denT cf w L[0] < (2 : Int) * keyT cf w L[0])
theorem SureB.one {cf : CF} {w : Wd} {a b : Bool} (h : SureB cf w a) (k : SureB cf w b) : a = b := by
  obtain ⟨L, hL, h0, rfl⟩ := h
  obtain ⟨M, hM, k0, rfl⟩ := k
  obtain rfl := hL.one hM
  rfl
/-- Which words are sure, one by one. -/
def SureL (cf : CF) : List Wd → List Bool → Prop
  | [], [] => True
  | w :: l, b :: bs => SureB cf w b ∧ SureL cf l bs
  | _, _ => False
theorem SureL.one {cf : CF} : ∀ {l : List Wd} {a b : List Bool}, SureL cf l a → SureL cf l b → a = b
  | [], [], [], _, _ => rfl
  | [], _ :: _, _, h, _ => h.elim
  | [], [], _ :: _, _, h => h.elim
  | _ :: _, [], _, h, _ => h.elim
  | _ :: _, _ :: _, [], _, h => h.elim
  | w :: l, x :: a, y :: b, h, k => by rw [h.1.one k.1, h.2.one k.2]
theorem SureL.push {cf : CF} : ∀ {l : List Wd} {a : List Bool} {w : Wd} {b : Bool}, SureL cf l a → SureB cf w b → SureL cf (l ++ [w]) (a ++ [b])
  | [], [], w, b, _, k => ⟨k, trivial⟩
  | [], _ :: _, _, _, h, _ => h.elim
  | _ :: _, [], _, _, h, _ => h.elim
  | v :: l, x :: a, w, b, h, k => ⟨h.1, h.2.push k⟩
theorem SureL.len {cf : CF} : ∀ {l : List Wd} {a : List Bool}, SureL cf l a → a.length = l.length
  | [], [], _ => rfl
  | [], _ :: _, h => h.elim
  | _ :: _, [], h => h.elim
  | _ :: _, _ :: _, h => by rw [List.length_cons, List.length_cons, h.2.len]
def cntB (a : List Bool) : Nat := (a.filter id).length
theorem cntB_push (a : List Bool) (b : Bool) : cntB (a ++ [b]) = cntB a + if b = true then 1 else 0 := by
  unfold cntB
  rw [List.filter_append, List.length_append]
  cases b <;> rfl
theorem cntB_le (a : List Bool) : cntB a ≤ a.length := List.length_filter_le _ _
def bestE (none : Bool) (l : List Wd) : Int := if 200 < l.length then 3 else askE none l
theorem bestE_big {none : Bool} {l : List Wd} (h : 200 < l.length) : bestE none l = 3 := if_pos h
theorem bestE_ok {none : Bool} {l : List Wd} (h : ¬ 200 < l.length) : bestE none l = askE none l := if_neg h
theorem Best0_c (l : List Wd) : Fn Zs 22 [.nilptr, encLL l] (.tup [.int .i64 0, .int .i64 (bestE true l)]) := by
  refine fn_of (Z := Zs) ok22 fun σ hcl hbl => ?_
  simp -dsimp only [L22, encLL, ↓preB, postB, genB, ↓reduceIte, Nat.reduceEqDiff, Int.reduceToNat, Int.reduceLE, Int.reduceLT, Nat.reduceAdd, Nat.reduceLeDiff, intBin, strBin, unD, extractD, lit1, lit2, lit3, keptD, boxR, D.one, D.pub1, D.cells, splice, cutOwn]
  intro hbl
  by_cases c0 : 200 < l.length
  · have c0' : (200 : Int) < (l.length : Int) := by omega
    simp -dsimp only [c0', ↓preB, postB, genB, ↓reduceIte, Nat.reduceEqDiff, Int.reduceToNat, Int.reduceLE, Int.reduceLT, Nat.reduceAdd, Nat.reduceLeDiff, intBin, strBin, unD, extractD, lit1, lit2, lit3, keptD, boxR, D.one, D.pub1, D.cells, splice, cutOwn]
    exact Ret.is (by rw [bestE_big c0])
  · have c0' : ¬ (200 : Int) < (l.length : Int) := by omega
    rw [bestE_ok c0]
    simp -dsimp only [c0', ↓preB, postB, genB, ↓reduceIte, Nat.reduceEqDiff, Int.reduceToNat, Int.reduceLE, Int.reduceLT, Nat.reduceAdd, Nat.reduceLeDiff, intBin, strBin, unD, extractD, lit1, lit2, lit3, keptD, boxR, D.one, D.pub1, D.cells, splice, cutOwn]
    intro _
    refine pwp_loopG (fun k env s => k ≤ l.length ∧ badLL (l.drop k) = badLL l ∧ s = σ ∧ env 20 = .int .i64 (k:Nat) ∧ env 19 = .int .i64 l.length ∧ env 18 = encLL l ∧ env 0 = .nilptr ∧ env 1 = encLL l) (fun k => l.length - k) 0 ?_ ?_
    · simp [upd_apply, envOf, encLL]
    · rintro k env s ⟨hk, hp, rfl, h20, h19, h18, h0, h1⟩
      rcases Nat.lt_or_ge k l.length with hlt | hge
      · have hx : l[k]? = some l[k] := List.getElem?_eq_getElem hlt
        have hlp : 0 < l.length := by omega
        have wk : IntKind.i64.wrap ((k : Int) + 1) = ((k + 1 : Nat) : Int) := wrap64_succ (by simp only [big]; omega)
        rw [List.drop_eq_getElem_cons hlt, badLL_cons] at hp
        simp -dsimp only [h20, h19, h18, h0, h1, encLL, hlt, hx, hlp, List.getElem?_map, ↓preB, postB, genB, ↓reduceIte, Nat.reduceEqDiff, Int.reduceToNat, Int.reduceLE, Int.reduceLT, Nat.reduceAdd, Nat.reduceLeDiff, intBin, strBin, unD, extractD, lit1, lit2, lit3, keptD, boxR, D.one, D.pub1, D.cells, splice, cutOwn]
        refine Fn.use (symsValidateWord_c _) ?_
        cases c1 : (badW l[k] != 0)
        · rw [c1] at hp
          simp -dsimp only [h20, h19, h18, h0, h1, encLL, hlt, hx, hlp, c1, wk, ↓preB, postB, genB, ↓reduceIte, Nat.reduceEqDiff, Int.reduceToNat, Int.reduceLE, Int.reduceLT, Nat.reduceAdd, Nat.reduceLeDiff, intBin, strBin, unD, extractD, lit1, lit2, lit3, keptD, boxR, D.one, D.pub1, D.cells, splice, cutOwn]
          exact ⟨k + 1, ⟨by omega, by simpa using hp, rfl⟩, by omega⟩
        · rw [c1] at hp
          have hb0 : badW l[k] ≠ 0 := by simpa using c1
          have e1 : badLL l = badW l[k] := by rw [← hp]; rfl
          simp -dsimp only [h20, h19, h18, h0, h1, encLL, hlt, hx, hlp, c1, ↓preB, postB, genB, ↓reduceIte, Nat.reduceEqDiff, Int.reduceToNat, Int.reduceLE, Int.reduceLT, Nat.reduceAdd, Nat.reduceLeDiff, intBin, strBin, unD, extractD, lit1, lit2, lit3, keptD, boxR, D.one, D.pub1, D.cells, splice, cutOwn]
          exact Ret.is (by rw [askE_bad (by rw [e1]; exact hb0), e1])
      · rw [List.drop_of_length_le hge] at hp
        have hz : badLL l = 0 := by rw [← hp]; rfl
        rw [askE_ok hz]
        simp -dsimp only [h20, h19, h18, h0, h1, encLL, Nat.not_lt.2 hge, ↓preB, postB, genB, ↓reduceIte, Nat.reduceEqDiff, Int.reduceToNat, Int.reduceLE, Int.reduceLT, Nat.reduceAdd, Nat.reduceLeDiff, intBin, strBin, unD, extractD, lit1, lit2, lit3, keptD, boxR, D.one, D.pub1, D.cells, splice, cutOwn]
        refine Fn.use none0_c ?_
        simp -dsimp only [↓preB, postB, genB, ↓reduceIte, Nat.reduceEqDiff, Int.reduceToNat, Int.reduceLE, Int.reduceLT, Nat.reduceAdd, Nat.reduceLeDiff, intBin, strBin, unD, extractD, lit1, lit2, lit3, keptD, boxR, D.one, D.pub1, D.cells, splice, cutOwn]
        exact Ret.is (by simp)
theorem Best_p (l : List Wd) (q : Nat) (mf : ByteArray × ByteArray → Int) (cf : CF) (hn : Nice cf) (hbig : Big5 cf) (σ0 σ : Heap) (h : PG σ0 mf cf q σ) (ht : cf noB noB ≠ 0 → ∃ t, t ≠ noB ∧ cf noB t ≠ 0) :
    PCall Zs 22 [.ptr q 0, encLL l] σ (fun d τ => τ = σ ∧ ((bestE (cf noB noB == 0) l ≠ 0 ∧ d = .tup [.int .i64 0, .int .i64 (bestE (cf noB noB == 0) l)]) ∨ (bestE (cf noB noB == 0) l = 0 ∧ ∃ bs, SureL cf l bs ∧ d = .tup [.int .i64 (cntB bs : Nat), .int .i64 0]))) := by
  refine pcall_of (Z := Zs) ok22 fun hcl hbl => ?_
  simp -dsimp only [L22, encLL, ↓preB, postB, genB, ↓reduceIte, Nat.reduceEqDiff, Int.reduceToNat, Int.reduceLE, Int.reduceLT, Nat.reduceAdd, Nat.reduceLeDiff, intBin, strBin, unD, extractD, lit1, lit2, lit3, keptD, boxR, D.one, D.pub1, D.cells, splice, cutOwn]
  intro hbl
  by_cases c0 : 200 < l.length
  · have c0' : (200 : Int) < (l.length : Int) := by omega
    simp -dsimp only [c0', ↓preB, postB, genB, ↓reduceIte, Nat.reduceEqDiff, Int.reduceToNat, Int.reduceLE, Int.reduceLT, Nat.reduceAdd, Nat.reduceLeDiff, intBin, strBin, unD, extractD, lit1, lit2, lit3, keptD, boxR, D.one, D.pub1, D.cells, splice, cutOwn]
    exact Ret.now (Nat.le_refl _) ⟨rfl, .inl ⟨by rw [bestE_big c0]; decide, by rw [bestE_big c0]⟩⟩
  · have c0' : ¬ (200 : Int) < (l.length : Int) := by omega
    rw [bestE_ok c0]
    simp -dsimp only [c0', ↓preB, postB, genB, ↓reduceIte, Nat.reduceEqDiff, Int.reduceToNat, Int.reduceLE, Int.reduceLT, Nat.reduceAdd, Nat.reduceLeDiff, intBin, strBin, unD, extractD, lit1, lit2, lit3, keptD, boxR, D.one, D.pub1, D.cells, splice, cutOwn]
    intro _
    refine pwp_loopG (fun k env s => k ≤ l.length ∧ badLL (l.drop k) = badLL l ∧ s = σ ∧ env 20 = .int .i64 (k:Nat) ∧ env 19 = .int .i64 l.length ∧ env 18 = encLL l ∧ env 0 = .ptr q 0 ∧ env 1 = encLL l) (fun k => l.length - k) 0 ?_ ?_
    · simp [upd_apply, envOf, encLL]
    · rintro k env s ⟨hk, hp, rfl, h20, h19, h18, h0, h1⟩
      rcases Nat.lt_or_ge k l.length with hlt | hge
      · have hx : l[k]? = some l[k] := List.getElem?_eq_getElem hlt
        have hlp : 0 < l.length := by omega
        have wk : IntKind.i64.wrap ((k : Int) + 1) = ((k + 1 : Nat) : Int) := wrap64_succ (by simp only [big]; omega)
        rw [List.drop_eq_getElem_cons hlt, badLL_cons] at hp
        simp -dsimp only [h20, h19, h18, h0, h1, encLL, hlt, hx, hlp, List.getElem?_map, ↓preB, postB, genB, ↓reduceIte, Nat.reduceEqDiff, Int.reduceToNat, Int.reduceLE, Int.reduceLT, Nat.reduceAdd, Nat.reduceLeDiff, intBin, strBin, unD, extractD, lit1, lit2, lit3, keptD, boxR, D.one, D.pub1, D.cells, splice, cutOwn]
        refine Fn.use (symsValidateWord_c _) ?_
        cases c1 : (badW l[k] != 0)
        · rw [c1] at hp
          simp -dsimp only [h20, h19, h18, h0, h1, encLL, hlt, hx, hlp, c1, wk, ↓preB, postB, genB, ↓reduceIte, Nat.reduceEqDiff, Int.reduceToNat, Int.reduceLE, Int.reduceLT, Nat.reduceAdd, Nat.reduceLeDiff, intBin, strBin, unD, extractD, lit1, lit2, lit3, keptD, boxR, D.one, D.pub1, D.cells, splice, cutOwn]
          exact ⟨k + 1, ⟨by omega, by simpa using hp, rfl⟩, by omega⟩
        · rw [c1] at hp
          have hb0 : badW l[k] ≠ 0 := by simpa using c1
          have e1 : badLL l = badW l[k] := by rw [← hp]; rfl
          simp -dsimp only [h20, h19, h18, h0, h1, encLL, hlt, hx, hlp, c1, ↓preB, postB, genB, ↓reduceIte, Nat.reduceEqDiff, Int.reduceToNat, Int.reduceLE, Int.reduceLT, Nat.reduceAdd, Nat.reduceLeDiff, intBin, strBin, unD, extractD, lit1, lit2, lit3, keptD, boxR, D.one, D.pub1, D.cells, splice, cutOwn]
          have e2 : askE (cf noB noB == 0) l = badW l[k] := by rw [askE_bad (by rw [e1]; exact hb0), e1]
          exact Ret.now (Nat.le_refl _) ⟨rfl, .inl ⟨by rw [e2]; exact hb0, by rw [e2]⟩⟩
      · rw [List.drop_of_length_le hge] at hp
        have hz : badLL l = 0 := by rw [← hp]; rfl
        have hbw := badLL_zero hz
        rw [askE_ok hz]
        simp -dsimp only [h20, h19, h18, h0, h1, encLL, Nat.not_lt.2 hge, ↓preB, postB, genB, ↓reduceIte, Nat.reduceEqDiff, Int.reduceToNat, Int.reduceLE, Int.reduceLT, Nat.reduceAdd, Nat.reduceLeDiff, intBin, strBin, unD, extractD, lit1, lit2, lit3, keptD, boxR, D.one, D.pub1, D.cells, splice, cutOwn]
        refine PCall.use (none_c q mf cf σ0 _ h) ?_
        rintro _ _ ⟨rfl, rfl⟩
        cases c2 : (cf noB noB == 0)
        · have c2' : cf noB noB ≠ 0 := by simpa using c2
          simp -dsimp only [h20, h19, h18, h0, h1, encLL, c2, ↓preB, postB, genB, ↓reduceIte, Nat.reduceEqDiff, Int.reduceToNat, Int.reduceLE, Int.reduceLT, Nat.reduceAdd, Nat.reduceLeDiff, intBin, strBin, unD, extractD, lit1, lit2, lit3, keptD, boxR, D.one, D.pub1, D.cells, splice, cutOwn]
          intro _
          rename_i s' _
          refine pwp_loopG (fun (x : Nat × List Bool) env s => x.1 ≤ l.length ∧ SureL cf (l.take x.1) x.2 ∧ s = s' ∧ env 9 = .int .i64 (cntB x.2 : Nat) ∧ env 34 = .int .i64 (x.1:Nat) ∧ env 33 = .int .i64 l.length ∧ env 32 = encLL l ∧ env 0 = .ptr q 0) (fun x => l.length - x.1) (0, []) ?_ ?_
          · simp only [upd_apply, h0, h1, encLL, Nat.reduceEqDiff, if_true, if_false]
            exact ⟨Nat.zero_le _, trivial, (by first | trivial | rfl | omega), (by first | trivial | rfl | omega), (by first | trivial | rfl | omega), (by first | trivial | rfl | omega), (by first | trivial | rfl | omega), (by first | trivial | rfl | omega)⟩
          · rintro ⟨k, bs⟩ env s ⟨hk, hS, rfl, h9, h34, h33, h32, h0⟩
            simp only at hk hS h9 h34
            rcases Nat.lt_or_ge k l.length with hlt | hge
            · have hx : l[k]? = some l[k] := List.getElem?_eq_getElem hlt
              have hlp : 0 < l.length := by omega
              have wk : IntKind.i64.wrap ((k : Int) + 1) = ((k + 1 : Nat) : Int) := wrap64_succ (by simp only [big]; omega)
              have hbsl : bs.length = k := by rw [hS.len, List.length_take]; omega
              have hcl2 := cntB_le bs
              have wc : IntKind.i64.wrap ((cntB bs : Int) + 1) = ((cntB bs + 1 : Nat) : Int) := wrap64_succ (by simp only [big]; omega)
              simp -dsimp only [h9, h34, h33, h32, h0, encLL, hlt, hx, hlp, List.getElem?_map, ↓preB, postB, genB, ↓reduceIte, Nat.reduceEqDiff, Int.reduceToNat, Int.reduceLE, Int.reduceLT, Nat.reduceAdd, Nat.reduceLeDiff, intBin, strBin, unD, extractD, lit1, lit2, lit3, keptD, boxR, D.one, D.pub1, D.cells, splice, cutOwn]
              refine PCall.use (Sure_p l[k] q mf cf hn hbig σ0 _ h ht) ?_
              rintro d2 τ2 ⟨hτ2, hd2⟩
              subst hτ2
              rcases hd2 with ⟨hb, _⟩ | ⟨_, hb, _⟩ | ⟨_, _, L, hR, hl0, rfl⟩
              · exact absurd (hbw _ (List.getElem_mem hlt)) hb
              · exact absurd hb c2'
              · have hsb : SureB cf l[k] (decide (denT cf l[k] L[0] < (2 : Int) * keyT cf l[k] L[0])) := ⟨L, hR, hl0, rfl⟩
                have hS2 := hS.push hsb
                rw [← take_snoc hlt] at hS2
                cases hb : decide (denT cf l[k] L[0] < (2 : Int) * keyT cf l[k] L[0])
                · rw [hb] at hS2
                  simp -dsimp only [h9, h34, h33, h32, h0, wk, wc, encLL, ↓preB, postB, genB, ↓reduceIte, Nat.reduceEqDiff, Int.reduceToNat, Int.reduceLE, Int.reduceLT, Nat.reduceAdd, Nat.reduceLeDiff, intBin, strBin, unD, extractD, lit1, lit2, lit3, keptD, boxR, D.one, D.pub1, D.cells, splice, cutOwn]
                  exact ⟨(k + 1, bs ++ [false]), ⟨by simp only []; omega, hS2, by rw [cntB_push]; simp⟩, by simp only []; omega⟩
                · rw [hb] at hS2
                  simp -dsimp only [h9, h34, h33, h32, h0, wk, wc, encLL, ↓preB, postB, genB, ↓reduceIte, Nat.reduceEqDiff, Int.reduceToNat, Int.reduceLE, Int.reduceLT, Nat.reduceAdd, Nat.reduceLeDiff, intBin, strBin, unD, extractD, lit1, lit2, lit3, keptD, boxR, D.one, D.pub1, D.cells, splice, cutOwn]
                  exact ⟨(k + 1, bs ++ [true]), ⟨by simp only []; omega, hS2, by rw [cntB_push]; simp⟩, by simp only []; omega⟩
            · rw [List.take_of_length_le hge] at hS
              simp -dsimp only [h9, h34, h33, h32, h0, Nat.not_lt.2 hge, encLL, ↓preB, postB, genB, ↓reduceIte, Nat.reduceEqDiff, Int.reduceToNat, Int.reduceLE, Int.reduceLT, Nat.reduceAdd, Nat.reduceLeDiff, intBin, strBin, unD, extractD, lit1, lit2, lit3, keptD, boxR, D.one, D.pub1, D.cells, splice, cutOwn]
              exact Ret.now (Nat.le_refl _) ⟨rfl, .inr ⟨bs, hS, rfl⟩⟩
        · simp -dsimp only [h20, h19, h18, h0, h1, encLL, c2, ↓preB, postB, genB, ↓reduceIte, Nat.reduceEqDiff, Int.reduceToNat, Int.reduceLE, Int.reduceLT, Nat.reduceAdd, Nat.reduceLeDiff, intBin, strBin, unD, extractD, lit1, lit2, lit3, keptD, boxR, D.one, D.pub1, D.cells, splice, cutOwn]
          exact Ret.now (Nat.le_refl _) ⟨rfl, .inl ⟨by decide, rfl⟩⟩
theorem refBest0_c (l : List Wd) : Fn Zs 23 [.nilptr, encLL l] (.tup [.int .i64 0, .int .i64 (bestE true l)]) := by
  refine fn_of (Z := Zs) ok23 fun σ hcl hbl => ?_
  simp -dsimp only [L23, encLL, ↓preB, postB, genB, ↓reduceIte, Nat.reduceEqDiff, Int.reduceToNat, Int.reduceLE, Int.reduceLT, Nat.reduceAdd, Nat.reduceLeDiff, intBin, strBin, unD, extractD, lit1, lit2, lit3, keptD, boxR, D.one, D.pub1, D.cells, splice, cutOwn]
  intro hbl
  by_cases c0 : 200 < l.length
  · have c0' : (200 : Int) < (l.length : Int) := by omega
    simp -dsimp only [c0', ↓preB, postB, genB, ↓reduceIte, Nat.reduceEqDiff, Int.reduceToNat, Int.reduceLE, Int.reduceLT, Nat.reduceAdd, Nat.reduceLeDiff, intBin, strBin, unD, extractD, lit1, lit2, lit3, keptD, boxR, D.one, D.pub1, D.cells, splice, cutOwn]
    exact Ret.is (by rw [bestE_big c0])
  · have c0' : ¬ (200 : Int) < (l.length : Int) := by omega
    rw [bestE_ok c0]
    simp -dsimp only [c0', ↓preB, postB, genB, ↓reduceIte, Nat.reduceEqDiff, Int.reduceToNat, Int.reduceLE, Int.reduceLT, Nat.reduceAdd, Nat.reduceLeDiff, intBin, strBin, unD, extractD, lit1, lit2, lit3, keptD, boxR, D.one, D.pub1, D.cells, splice, cutOwn]
    refine Fn.use (asked0_c l) ?_
    have e1 : (askE true l != 0) = true := by
      unfold askE
      split
      · simpa using ‹badLL l ≠ 0›
      · rfl
    simp -dsimp only [e1, ↓preB, postB, genB, ↓reduceIte, Nat.reduceEqDiff, Int.reduceToNat, Int.reduceLE, Int.reduceLT, Nat.reduceAdd, Nat.reduceLeDiff, intBin, strBin, unD, extractD, lit1, lit2, lit3, keptD, boxR, D.one, D.pub1, D.cells, splice, cutOwn]
    exact Ret.is rfl
theorem refBest_p {l0 : List Smp} (hfine : ∀ x ∈ l0, fineS x) (htot : tot l0 ≤ 1000) (l : List Wd) (q : Nat) (hL : (allR l0).length ≤ 100000) (σ : Heap) (h : RGat (allR l0) q σ) :
    PCall Zs 23 [.ptr q 0, encLL l] σ (fun d τ => τ = σ ∧ ((bestE (decide (allR l0 = [])) l ≠ 0 ∧ d = .tup [.int .i64 0, .int .i64 (bestE (decide (allR l0 = [])) l)]) ∨ (bestE (decide (allR l0 = [])) l = 0 ∧ ∃ bs, SureL (cfL l0) l bs ∧ d = .tup [.int .i64 (cntB bs : Nat), .int .i64 0]))) := by
  have hF : Fine (allR l0) := allR_fine (fun x hx => (hfine x hx).2.2) htot
  refine pcall_of (Z := Zs) ok23 fun hcl hbl => ?_
  simp -dsimp only [L23, encLL, ↓preB, postB, genB, ↓reduceIte, Nat.reduceEqDiff, Int.reduceToNat, Int.reduceLE, Int.reduceLT, Nat.reduceAdd, Nat.reduceLeDiff, intBin, strBin, unD, extractD, lit1, lit2, lit3, keptD, boxR, D.one, D.pub1, D.cells, splice, cutOwn]
  intro hbl
  by_cases c0 : 200 < l.length
  · have c0' : (200 : Int) < (l.length : Int) := by omega
    simp -dsimp only [c0', ↓preB, postB, genB, ↓reduceIte, Nat.reduceEqDiff, Int.reduceToNat, Int.reduceLE, Int.reduceLT, Nat.reduceAdd, Nat.reduceLeDiff, intBin, strBin, unD, extractD, lit1, lit2, lit3, keptD, boxR, D.one, D.pub1, D.cells, splice, cutOwn]
    exact Ret.now (Nat.le_refl _) ⟨rfl, .inl ⟨by rw [bestE_big c0]; decide, by rw [bestE_big c0]⟩⟩
  · have c0' : ¬ (200 : Int) < (l.length : Int) := by omega
    rw [bestE_ok c0]
    simp -dsimp only [c0', ↓preB, postB, genB, ↓reduceIte, Nat.reduceEqDiff, Int.reduceToNat, Int.reduceLE, Int.reduceLT, Nat.reduceAdd, Nat.reduceLeDiff, intBin, strBin, unD, extractD, lit1, lit2, lit3, keptD, boxR, D.one, D.pub1, D.cells, splice, cutOwn]
    refine PCall.use (asked_c (allR l0) q l σ h) ?_
    rintro _ _ ⟨rfl, rfl⟩
    rename_i s'
    by_cases c1 : askE (decide (allR l0 = [])) l = 0
    · have c1' : (askE (decide (allR l0 = [])) l != 0) = false := by rw [c1]; rfl
      have hz : badLL l = 0 := Classical.byContradiction fun hb => by rw [askE_bad hb] at c1; exact hb c1
      have hne : allR l0 ≠ [] := fun e => by rw [askE_ok hz, e] at c1; cases c1
      have hbw := badLL_zero hz
      simp -dsimp only [c1', ↓preB, postB, genB, ↓reduceIte, Nat.reduceEqDiff, Int.reduceToNat, Int.reduceLE, Int.reduceLT, Nat.reduceAdd, Nat.reduceLeDiff, intBin, strBin, unD, extractD, lit1, lit2, lit3, keptD, boxR, D.one, D.pub1, D.cells, splice, cutOwn]
      refine pwp_loopG (fun (x : Nat × List Bool) env s => x.1 ≤ l.length ∧ SureL (cfL l0) (l.take x.1) x.2 ∧ s = s' ∧ env 7 = .int .i64 (cntB x.2 : Nat) ∧ env 8 = .int .i64 (x.1:Nat) ∧ env 0 = .ptr q 0 ∧ env 1 = encLL l) (fun x => l.length - x.1) (0, []) ?_ ?_
      · simp only [upd_apply, envOf_apply, encLL, Nat.reduceEqDiff, if_true, if_false]
        exact ⟨Nat.zero_le _, trivial, (by first | trivial | rfl | omega), (by first | trivial | rfl | omega), (by first | trivial | rfl | omega), (by first | trivial | rfl | omega), (by first | trivial | rfl | omega)⟩
      · rintro ⟨k, bs⟩ env s ⟨hk, hS, rfl, h7, h8, h0, h1⟩
        simp only at hk hS h7 h8
        rcases Nat.lt_or_ge k l.length with hlt | hge
        · have hx : l[k]? = some l[k] := List.getElem?_eq_getElem hlt
          have hlp : 0 < l.length := by omega
          have wk : IntKind.i64.wrap ((k : Int) + 1) = ((k + 1 : Nat) : Int) := wrap64_succ (by simp only [big]; omega)
          have hbsl : bs.length = k := by rw [hS.len, List.length_take]; omega
          have hcl2 := cntB_le bs
          have wc : IntKind.i64.wrap ((cntB bs : Int) + 1) = ((cntB bs + 1 : Nat) : Int) := wrap64_succ (by simp only [big]; omega)
          have hgw := badW_good (hbw _ (List.getElem_mem hlt))
          simp -dsimp only [h7, h8, h0, h1, encLL, hlt, hx, hlp, List.getElem?_map, ↓preB, postB, genB, ↓reduceIte, Nat.reduceEqDiff, Int.reduceToNat, Int.reduceLE, Int.reduceLT, Nat.reduceAdd, Nat.reduceLeDiff, intBin, strBin, unD, extractD, lit1, lit2, lit3, keptD, boxR, D.one, D.pub1, D.cells, splice, cutOwn]
          intro _
          refine PCall.use (refSure_p (allR l0) q l[k] hL hF _ h) ?_
          rintro d2 τ2 ⟨hτ2, hd2⟩
          subst hτ2
          have ea : askE (decide (allR l0 = [])) [l[k]] = 0 := by rw [askE_w, if_neg (fun h => h (hbw _ (List.getElem_mem hlt))), if_neg (by simpa using hne)]
          rw [ea] at hd2
          rcases hd2 with ⟨hb, _⟩ | ⟨_, O, U, hD, hp, hs, hl0, rfl⟩
          · exact absurd rfl hb
          · have hR := rank_ref hfine htot hgw hD hp hs
            have hm4 := ((hR.mem _).1 (List.getElem_mem hl0)).1
            have ek : keyR (allR l0) l[k] U[0] = keyT (cfL l0) l[k] U[0] := by rw [keyR, keyT, key_eq hfine hgw hm4]
            have ed : (chV (fun e => tagV (allR l0) e U[0]) (fun e => cnt (allR l0) e noB) l[k]).2 = denT (cfL l0) l[k] U[0] := by rw [denT, key_eq hfine hgw hm4]
            rw [ek, ed]
            have hsb : SureB (cfL l0) l[k] (decide (denT (cfL l0) l[k] U[0] < (2 : Int) * keyT (cfL l0) l[k] U[0])) := ⟨U, hR, hl0, rfl⟩
            have hS2 := hS.push hsb
            rw [← take_snoc hlt] at hS2
            cases hb : decide (denT (cfL l0) l[k] U[0] < (2 : Int) * keyT (cfL l0) l[k] U[0])
            · rw [hb] at hS2
              simp -dsimp only [h7, h8, h0, h1, wk, wc, encLL, ↓preB, postB, genB, ↓reduceIte, Nat.reduceEqDiff, Int.reduceToNat, Int.reduceLE, Int.reduceLT, Nat.reduceAdd, Nat.reduceLeDiff, intBin, strBin, unD, extractD, lit1, lit2, lit3, keptD, boxR, D.one, D.pub1, D.cells, splice, cutOwn]
              exact ⟨(k + 1, bs ++ [false]), ⟨by simp only []; omega, hS2, by rw [cntB_push]; simp⟩, by simp only []; omega⟩
            · rw [hb] at hS2
              simp -dsimp only [h7, h8, h0, h1, wk, wc, encLL, ↓preB, postB, genB, ↓reduceIte, Nat.reduceEqDiff, Int.reduceToNat, Int.reduceLE, Int.reduceLT, Nat.reduceAdd, Nat.reduceLeDiff, intBin, strBin, unD, extractD, lit1, lit2, lit3, keptD, boxR, D.one, D.pub1, D.cells, splice, cutOwn]
              exact ⟨(k + 1, bs ++ [true]), ⟨by simp only []; omega, hS2, by rw [cntB_push]; simp⟩, by simp only []; omega⟩
        · rw [List.take_of_length_le hge] at hS
          simp -dsimp only [h7, h8, h0, h1, Nat.not_lt.2 hge, encLL, ↓preB, postB, genB, ↓reduceIte, Nat.reduceEqDiff, Int.reduceToNat, Int.reduceLE, Int.reduceLT, Nat.reduceAdd, Nat.reduceLeDiff, intBin, strBin, unD, extractD, lit1, lit2, lit3, keptD, boxR, D.one, D.pub1, D.cells, splice, cutOwn]
          intro _
          exact Ret.now (Nat.le_refl _) ⟨rfl, .inr ⟨c1, bs, hS, rfl⟩⟩
    · have c1' : (askE (decide (allR l0 = [])) l != 0) = true := by simpa using c1
      simp -dsimp only [c1', ↓preB, postB, genB, ↓reduceIte, Nat.reduceEqDiff, Int.reduceToNat, Int.reduceLE, Int.reduceLT, Nat.reduceAdd, Nat.reduceLeDiff, intBin, strBin, unD, extractD, lit1, lit2, lit3, keptD, boxR, D.one, D.pub1, D.cells, splice, cutOwn]
      exact Ret.now (Nat.le_refl _) ⟨rfl, .inl ⟨c1, rfl⟩⟩
theorem best_c (l : List Smp) (ws : List Wd) : Fn Zs 6 [encS l, encLL ws] (.bool true) := by
  refine fn_of (Z := Zs) ok6 fun σ hcl hbl => ?_
  simp -dsimp only [L6, ↓preB, postB, genB, ↓reduceIte, Nat.reduceEqDiff, Int.reduceToNat, Int.reduceLE, Int.reduceLT, Nat.reduceAdd, Nat.reduceLeDiff, intBin, strBin, unD, extractD, lit1, lit2, lit3, keptD, boxR, D.one, D.pub1, D.cells, splice, cutOwn]
  refine Says.use (over_c l) ?_
  rintro _ ⟨b, rfl⟩
  cases b
  · simp -dsimp only [gate, uTT, uTF, uFT, uFF, ↓preB, postB, genB, ↓reduceIte, Nat.reduceEqDiff, Int.reduceToNat, Int.reduceLE, Int.reduceLT, Nat.reduceAdd, Nat.reduceLeDiff, intBin, strBin, unD, extractD, lit1, lit2, lit3, keptD, boxR, D.one, D.pub1, D.cells, splice, cutOwn]
    refine Says.use (IsLong_c ws) ?_
    rintro _ ⟨b, rfl⟩
    cases b
    · simp -dsimp only [encLL, gate, uTT, uTF, uFT, uFF, ↓preB, postB, genB, ↓reduceIte, Nat.reduceEqDiff, Int.reduceToNat, Int.reduceLE, Int.reduceLT, Nat.reduceAdd, Nat.reduceLeDiff, intBin, strBin, unD, extractD, lit1, lit2, lit3, keptD, boxR, D.one, D.pub1, D.cells, splice, cutOwn]
      intro hb
      by_cases c0 : (1000 : Int) < (ws.length : Int)
      · simp -dsimp only [c0, gate, uTT, uTF, uFT, uFF, decide_true, decide_false, ↓preB, postB, genB, ↓reduceIte, Nat.reduceEqDiff, Int.reduceToNat, Int.reduceLE, Int.reduceLT, Nat.reduceAdd, Nat.reduceLeDiff, intBin, strBin, unD, extractD, lit1, lit2, lit3, keptD, boxR, D.one, D.pub1, D.cells, splice, cutOwn]
        refine Fn.use known_c ?_
        simp -dsimp only [↓preB, postB, genB, ↓reduceIte, Nat.reduceEqDiff, Int.reduceToNat, Int.reduceLE, Int.reduceLT, Nat.reduceAdd, Nat.reduceLeDiff, intBin, strBin, unD, extractD, lit1, lit2, lit3, keptD, boxR, D.one, D.pub1, D.cells, splice, cutOwn]
        exact Ret.is rfl
      · simp -dsimp only [c0, gate, uTT, uTF, uFT, uFF, decide_true, decide_false, ↓preB, postB, genB, ↓reduceIte, Nat.reduceEqDiff, Int.reduceToNat, Int.reduceLE, Int.reduceLT, Nat.reduceAdd, Nat.reduceLeDiff, intBin, strBin, unD, extractD, lit1, lit2, lit3, keptD, boxR, D.one, D.pub1, D.cells, splice, cutOwn]
        refine PCall.use (new_c l σ) ?_
        rintro d τ ⟨hle, ⟨h0, rfl⟩ | ⟨h0, q, rfl, hPG⟩⟩
        · simp -dsimp only [↓preB, postB, genB, ↓reduceIte, Nat.reduceEqDiff, Int.reduceToNat, Int.reduceLE, Int.reduceLT, Nat.reduceAdd, Nat.reduceLeDiff, intBin, strBin, unD, extractD, lit1, lit2, lit3, keptD, boxR, D.one, D.pub1, D.cells, splice, cutOwn]
          refine PCall.use (refNew_c l τ) ?_
          rintro d τ2 ⟨hle2, ⟨h1, rfl⟩ | ⟨h1, _⟩⟩
          · simp -dsimp only [↓preB, postB, genB, ↓reduceIte, Nat.reduceEqDiff, Int.reduceToNat, Int.reduceLE, Int.reduceLT, Nat.reduceAdd, Nat.reduceLeDiff, intBin, strBin, unD, extractD, lit1, lit2, lit3, keptD, boxR, D.one, D.pub1, D.cells, splice, cutOwn]
            refine Fn.use (Best0_c ws) ?_
            simp -dsimp only [↓preB, postB, genB, ↓reduceIte, Nat.reduceEqDiff, Int.reduceToNat, Int.reduceLE, Int.reduceLT, Nat.reduceAdd, Nat.reduceLeDiff, intBin, strBin, unD, extractD, lit1, lit2, lit3, keptD, boxR, D.one, D.pub1, D.cells, splice, cutOwn]
            refine Fn.use (refBest0_c ws) ?_
            simp -dsimp only [beq_self_eq_true, gate, uTT, uTF, uFT, uFF, ↓preB, postB, genB, ↓reduceIte, Nat.reduceEqDiff, Int.reduceToNat, Int.reduceLE, Int.reduceLT, Nat.reduceAdd, Nat.reduceLeDiff, intBin, strBin, unD, extractD, lit1, lit2, lit3, keptD, boxR, D.one, D.pub1, D.cells, splice, cutOwn]
            refine Fn.use known_c ?_
            simp -dsimp only [↓preB, postB, genB, ↓reduceIte, Nat.reduceEqDiff, Int.reduceToNat, Int.reduceLE, Int.reduceLT, Nat.reduceAdd, Nat.reduceLeDiff, intBin, strBin, unD, extractD, lit1, lit2, lit3, keptD, boxR, D.one, D.pub1, D.cells, splice, cutOwn]
            exact Ret.less (hle.trans hle2) hcl (.refl _) (.bool _)
          · exact absurd h1 h0
        · simp -dsimp only [↓preB, postB, genB, ↓reduceIte, Nat.reduceEqDiff, Int.reduceToNat, Int.reduceLE, Int.reduceLT, Nat.reduceAdd, Nat.reduceLeDiff, intBin, strBin, unD, extractD, lit1, lit2, lit3, keptD, boxR, D.one, D.pub1, D.cells, splice, cutOwn]
          refine PCall.use (refNew_c l τ) ?_
          rintro d τ2 ⟨hle2, ⟨h1, _⟩ | ⟨_, q2, rfl, hRG⟩⟩
          · exact absurd h0 h1
          · obtain ⟨h200, hbs⟩ := newE_fine h0
            obtain ⟨hfine, htot⟩ := badS_ok hbs
            have hlen : (allR l).length ≤ 100000 := by have := allR_len l; omega
            have hPG2 := hPG.more hle2
            have hz : (cfL l noB noB == 0) = decide (allR l = []) := by
              rw [cf_tot hfine]
              by_cases h : allR l = []
              · rw [decide_eq_true h, (tot_zero hfine).2 (allR_nil.1 h)]; rfl
              · rw [decide_eq_false h, beq_eq_false_iff_ne]
                exact fun e => h (allR_nil.2 ((tot_zero hfine).1 e))
            have fin : ∀ s, HLe σ s → Ret σ (fun d τ => d = .bool true ∧ τ = σ) (.bool true) s := fun s hs => Ret.less hs hcl (.refl _) (.bool _)
            simp -dsimp only [↓preB, postB, genB, ↓reduceIte, Nat.reduceEqDiff, Int.reduceToNat, Int.reduceLE, Int.reduceLT, Nat.reduceAdd, Nat.reduceLeDiff, intBin, strBin, unD, extractD, lit1, lit2, lit3, keptD, boxR, D.one, D.pub1, D.cells, splice, cutOwn]
            refine PCall.use (Best_p ws q (mfL l) (cfL l) (cfL_nice hfine htot) (big5 hfine h200) σ τ2 hPG2 (some_tag hfine)) ?_
            rintro d1 τ3 ⟨hτ3, hd1⟩
            subst hτ3
            rw [hz] at hd1
            rcases hd1 with ⟨c1, rfl⟩ | ⟨c1, bs, hS, rfl⟩
            · simp -dsimp only [↓preB, postB, genB, ↓reduceIte, Nat.reduceEqDiff, Int.reduceToNat, Int.reduceLE, Int.reduceLT, Nat.reduceAdd, Nat.reduceLeDiff, intBin, strBin, unD, extractD, lit1, lit2, lit3, keptD, boxR, D.one, D.pub1, D.cells, splice, cutOwn]
              refine PCall.use (refBest_p hfine htot ws q2 hlen τ3 hRG.at) ?_
              rintro d2 τ4 ⟨hτ4, hd2⟩
              subst hτ4
              rcases hd2 with ⟨_, rfl⟩ | ⟨h, _⟩
              · simp -dsimp only [beq_self_eq_true, gate, uTT, uTF, uFT, uFF, ↓preB, postB, genB, ↓reduceIte, Nat.reduceEqDiff, Int.reduceToNat, Int.reduceLE, Int.reduceLT, Nat.reduceAdd, Nat.reduceLeDiff, intBin, strBin, unD, extractD, lit1, lit2, lit3, keptD, boxR, D.one, D.pub1, D.cells, splice, cutOwn]
                refine Fn.use known_c ?_
                simp -dsimp only [↓preB, postB, genB, ↓reduceIte, Nat.reduceEqDiff, Int.reduceToNat, Int.reduceLE, Int.reduceLT, Nat.reduceAdd, Nat.reduceLeDiff, intBin, strBin, unD, extractD, lit1, lit2, lit3, keptD, boxR, D.one, D.pub1, D.cells, splice, cutOwn]
                exact fin _ (hle.trans hle2)
              · exact absurd h c1
            · simp -dsimp only [↓preB, postB, genB, ↓reduceIte, Nat.reduceEqDiff, Int.reduceToNat, Int.reduceLE, Int.reduceLT, Nat.reduceAdd, Nat.reduceLeDiff, intBin, strBin, unD, extractD, lit1, lit2, lit3, keptD, boxR, D.one, D.pub1, D.cells, splice, cutOwn]
              refine PCall.use (refBest_p hfine htot ws q2 hlen τ3 hRG.at) ?_
              rintro d2 τ4 ⟨hτ4, hd2⟩
              subst hτ4
              rcases hd2 with ⟨h, _⟩ | ⟨_, bs2, hS2, rfl⟩
              · exact absurd c1 h
              · obtain rfl := hS2.one hS
                simp -dsimp only [beq_self_eq_true, gate, uTT, uTF, uFT, uFF, ↓preB, postB, genB, ↓reduceIte, Nat.reduceEqDiff, Int.reduceToNat, Int.reduceLE, Int.reduceLT, Nat.reduceAdd, Nat.reduceLeDiff, intBin, strBin, unD, extractD, lit1, lit2, lit3, keptD, boxR, D.one, D.pub1, D.cells, splice, cutOwn]
                refine Fn.use known_c ?_
                simp -dsimp only [↓preB, postB, genB, ↓reduceIte, Nat.reduceEqDiff, Int.reduceToNat, Int.reduceLE, Int.reduceLT, Nat.reduceAdd, Nat.reduceLeDiff, intBin, strBin, unD, extractD, lit1, lit2, lit3, keptD, boxR, D.one, D.pub1, D.cells, splice, cutOwn]
                exact fin _ (hle.trans hle2)
    · simp -dsimp only [gate, uTT, uTF, uFT, uFF, ↓preB, postB, genB, ↓reduceIte, Nat.reduceEqDiff, Int.reduceToNat, Int.reduceLE, Int.reduceLT, Nat.reduceAdd, Nat.reduceLeDiff, intBin, strBin, unD, extractD, lit1, lit2, lit3, keptD, boxR, D.one, D.pub1, D.cells, splice, cutOwn]
      refine Fn.use known_c ?_
      simp -dsimp only [↓preB, postB, genB, ↓reduceIte, Nat.reduceEqDiff, Int.reduceToNat, Int.reduceLE, Int.reduceLT, Nat.reduceAdd, Nat.reduceLeDiff, intBin, strBin, unD, extractD, lit1, lit2, lit3, keptD, boxR, D.one, D.pub1, D.cells, splice, cutOwn]
      exact Ret.is rfl
  · simp -dsimp only [gate, uTT, uTF, uFT, uFF, ↓preB, postB, genB, ↓reduceIte, Nat.reduceEqDiff, Int.reduceToNat, Int.reduceLE, Int.reduceLT, Nat.reduceAdd, Nat.reduceLeDiff, intBin, strBin, unD, extractD, lit1, lit2, lit3, keptD, boxR, D.one, D.pub1, D.cells, splice, cutOwn]
    refine Fn.use known_c ?_
    simp -dsimp only [↓preB, postB, genB, ↓reduceIte, Nat.reduceEqDiff, Int.reduceToNat, Int.reduceLE, Int.reduceLT, Nat.reduceAdd, Nat.reduceLeDiff, intBin, strBin, unD, extractD, lit1, lit2, lit3, keptD, boxR, D.one, D.pub1, D.cells, splice, cutOwn]
    exact Ret.is rfl
end Go.Proofs.Ythchlpikcpidaaa.Vs
