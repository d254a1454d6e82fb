import Derived.Test.YthchlpikcpidaaaGuR1
/- numbers of Ythchlpikcpidaaa -/
namespace Go.Proofs.Ythchlpikcpidaaa.Vs
set_option linter.unusedVariables false
set_option linter.unusedSimpArgs false
set_option maxRecDepth 100000
theorem uTT : ((true : Bool) == true) = true := (rfl)
theorem uTF : ((true : Bool) == false) = false := (rfl)
theorem uFT : ((false : Bool) == true) = false := (rfl)
theorem uFF : ((false : Bool) == false) = true := (rfl)
theorem RGat.less {L : List Smp} {q : Nat} {σ σ' : Heap} (h : RGat L q σ) (hle : HLe σ σ') : RGat L q σ' := by
  obtain ⟨d, h1, h2⟩ := h
  refine ⟨d, hle.get _ _ h1, ?_⟩
  rcases h2 with h2 | ⟨h3, r, js, h4, h5, h6⟩
  · exact .inl h2
  · exact .inr ⟨h3, r, js, h4, h5, hle.get _ _ h6⟩
def plusH (σ : Heap) (N x : Nat) (o : AO) : Heap := ⟨N, fun i => if i = x then some o else σ.get i⟩
theorem plusH_lt {σ : Heap} {N x : Nat} (o : AO) (hc : ∀ r o, σ.get r = some o → r < σ.next) (hN : σ.next ≤ N) (hx : x < N) : ∀ r y, (plusH σ N x o).get r = some y → r < (plusH σ N x o).next := fun r y hr => by
  simp only [plusH] at hr ⊢
  split at hr
  · omega
  · have := hc r y hr; omega
theorem plusH_le {σ s : Heap} {x : Nat} {o : AO} (h : HLe σ s) (hx : s.get x = some o) : HLe (plusH σ s.next x o) s := ⟨Nat.le_refl _, fun r y hr => by
  simp only [plusH] at hr
  split at hr
  · rename_i e; subst e; cases hr; exact hx
  · exact h.get r y hr⟩
theorem le_plusH {σ : Heap} {N x : Nat} (o : AO) (hN : σ.next ≤ N) (hx : σ.get x = none) : HLe σ (plusH σ N x o) := ⟨hN, fun r y hr => by
  simp only [plusH]
  split
  · rename_i e; subst e; rw [hx] at hr; cases hr
  · exact hr⟩
theorem plusH_same (σ : Heap) (N x : Nat) (o : AO) : (plusH σ N x o).get x = some o := by simp [plusH]
def tagL (L : List Smp) : List ByteArray := L.map (·.tag)
/-- What differs from its neighbour, of a sorted row. -/
structure DedOf (S : List ByteArray) (i : Nat) (O : List ByteArray) : Prop where
  so : O.Pairwise fun a b => strLt a b = true
  mem : ∀ t, t ∈ O ↔ t ∈ S.take i
  le : O.length ≤ i
theorem DedOf.nil (S : List ByteArray) : DedOf S 0 [] := ⟨List.Pairwise.nil, fun t => by simp, Nat.le_refl _⟩
theorem DedOf.keep {S : List ByteArray} {i : Nat} {O : List ByteArray} (h : DedOf S i O) (hi : i < S.length) (h0 : 0 < i) (he : S[i] = S[i - 1]'(by omega)) : DedOf S (i + 1) O := by
  refine ⟨h.so, fun t => ?_, Nat.le_succ_of_le h.le⟩
  rw [h.mem, List.take_succ_eq_append_getElem hi, List.mem_append, List.mem_singleton]
  constructor
  · exact .inl
  · rintro (h1 | rfl)
    · exact h1
    · rw [he]
      exact List.mem_take_iff_getElem.2 ⟨i - 1, by omega, rfl⟩
theorem DedOf.push {S : List ByteArray} {i : Nat} {O : List ByteArray} (hS : S.Pairwise fun a b => strLt b a = false) (h : DedOf S i O) (hi : i < S.length) (he : ∀ h0 : 0 < i, S[i] ≠ S[i - 1]'(by omega)) : DedOf S (i + 1) (O ++ [S[i]]) := by
  have hs := List.pairwise_iff_getElem.1 hS
  refine ⟨List.pairwise_append.2 ⟨h.so, List.pairwise_singleton _ _, fun a ha b hb => ?_⟩, fun t => ?_, by have := h.le; simp; omega⟩
  · simp only [List.mem_singleton] at hb
    subst hb
    obtain ⟨p, hp, rfl⟩ := List.mem_take_iff_getElem.1 ((h.mem a).1 ha)
    have hpi : p < i := by omega
    rcases strLt_tri S[p] S[i] with h1 | h1 | h1
    · exact h1
    · exfalso
      refine he (by omega) ?_
      by_cases hp1 : p = i - 1
      · subst hp1; exact h1.symm
      · have a1 := hs p (i - 1) (by omega) (by omega) (by omega)
        have a2 := hs (i - 1) i (by omega) hi (by omega)
        rcases strLt_tri (S[i - 1]'(by omega)) S[i] with h2 | h2 | h2
        · rw [← h1, a1] at h2; cases h2
        · exact h2.symm
        · rw [a2] at h2; cases h2
    · have := hs p i (by omega) hi hpi
      rw [this] at h1; cases h1
  · rw [List.take_succ_eq_append_getElem hi, List.mem_append, List.mem_append, h.mem]
theorem refTags_p (L : List Smp) (q : Nat) (hL : L.length ≤ 100000) (hne : L ≠ []) (σ : Heap) (h : RGat L q σ) : PCall Zs 40 [.ptr q 0] σ (fun d τ => τ = σ ∧ ∃ O, DedOf (sortB (tagL L)) L.length O ∧ d = encSS O) := by
  have hR := h
  obtain ⟨d, hq, hd⟩ := h
  obtain ⟨r, js, hrq, rfl, hr⟩ : ∃ r js, r ≠ q ∧ d = .row r 0 L.length none 3 ∧ σ.get r = some (.cells 51 (cellsS L ++ js)) := by
    rcases hd with ⟨h1, _⟩ | ⟨_, h2⟩
    · exact absurd h1 hne
    · exact h2
  refine pcall_of (Z := Zs) ok40 fun hcl hbl => ?_
  simp -dsimp only [L40, ↓preB, postB, genB, ↓reduceIte, Nat.reduceEqDiff, Int.reduceToNat, Int.reduceLE, Int.reduceLT, Nat.reduceAdd, Nat.reduceLeDiff, intBin, strBin, unD, extractD, lit1, lit2, lit3, keptD, boxR, D.one, D.pub1, D.cells, splice, cutOwn]
  refine pwp_loopG (fun (i : Nat) env s => (i ≤ L.length ∧ ∃ d, AccR 9 1 σ i ((tagL (L.take i)).map .str) d s ∧ env 3 = d) ∧ env 4 = .int .i64 (i:Nat) ∧ env 0 = .ptr q 0) (fun i => L.length - i) 0 ?_ ?_
  · simp only [upd_apply, envOf_apply, Nat.reduceEqDiff, if_true, if_false]
    exact ⟨⟨Nat.zero_le _, _, AccR.nil (HLe.refl _), rfl⟩, by simp [envOf]⟩
  · rintro i env s ⟨⟨hi, d, hA, h3⟩, h4, h0⟩
    have hqs := hA.le.get _ _ hq
    have hrs := hA.le.get _ _ hr
    by_cases c1 : i < L.length
    · obtain ⟨d0, d1, d2⟩ := cellsS_j c1 js
      simp -dsimp only [h3, h4, h0, hqs, hrs, c1, d1, ↓preB, postB, genB, ↓reduceIte, Nat.reduceEqDiff, Int.reduceToNat, Int.reduceLE, Int.reduceLT, Nat.reduceAdd, Nat.reduceLeDiff, intBin, strBin, unD, extractD, lit1, lit2, lit3, keptD, boxR, D.one, D.pub1, D.cells, splice, cutOwn]
      intro hbL
      refine hA.appendAny (m := 1) (ys := [.str L[i].tag]) hcl.lt tz23 rfl tz9 rfl rfl rfl (by decide) (fedBy_sl (m := 1) tz23 rfl rfl) (by simp only []; omega) (by simp only [big]; omega) fun d1 s3 hA1 => ?_
      have wi : IntKind.i64.wrap ((i : Int) + 1) = ((i + 1 : Nat) : Int) := wrap64_succ (by simp only [big]; omega)
      simp -dsimp only [h3, h4, h0, wi, ↓preB, postB, genB, ↓reduceIte, Nat.reduceEqDiff, Int.reduceToNat, Int.reduceLE, Int.reduceLT, Nat.reduceAdd, Nat.reduceLeDiff, intBin, strBin, unD, extractD, lit1, lit2, lit3, keptD, boxR, D.one, D.pub1, D.cells, splice, cutOwn]
      refine ⟨i + 1, ⟨⟨by omega, d1, ?_, rfl⟩, rfl⟩, by omega⟩
      rw [take_snoc c1]
      have e1 : (tagL (L.take i ++ [L[i]])).map D.str = (tagL (L.take i)).map D.str ++ [.str L[i].tag] := by simp only [tagL, List.map_append, List.map_cons, List.map_nil]
      rw [e1]; exact hA1
    · have hiL : i = L.length := by omega
      subst hiL
      simp -dsimp only [h3, h4, h0, hqs, hrs, Nat.lt_irrefl, ↓preB, postB, genB, ↓reduceIte, Nat.reduceEqDiff, Int.reduceToNat, Int.reduceLE, Int.reduceLT, Nat.reduceAdd, Nat.reduceLeDiff, intBin, strBin, unD, extractD, lit1, lit2, lit3, keptD, boxR, D.one, D.pub1, D.cells, splice, cutOwn]
      intro hbL
      rw [List.take_length] at hA
      have hlT : (tagL L).length = L.length := by simp [tagL]
      have hT0 : tagL L ≠ [] := fun e => hne (List.eq_nil_of_length_eq_zero (by rw [← hlT, e]; rfl))
      obtain ⟨x, ks, b1, b2, rfl, b4⟩ := hA.row (by have := List.length_pos_iff.2 hne; omega)
      have hs := sortS_p (tagL L) hT0 (by omega) ks x none (n := L.length) hlT.symm (σ := s) b4
      refine PCall.use hs ?_
      rintro _ _ ⟨rfl, rfl⟩
      have hSl : (sortB (tagL L)).length = L.length := by rw [(sortB_perm _).length_eq, hlT]
      have hSs := sortB_sorted (tagL L)
      have hle2 := hA.le.set (.cells 9 (cellsT (sortB (tagL L)) ks)) b1
      have hgx : (s.set x (.cells 9 (cellsT (sortB (tagL L)) ks))).get x = some (.cells 9 (cellsT (sortB (tagL L)) ks)) := Heap.set_same _ _ _
      have hxlt : x < (s.set x (.cells 9 (cellsT (sortB (tagL L)) ks))).next := b2
      generalize s.set x (.cells 9 (cellsT (sortB (tagL L)) ks)) = s1 at *
      generalize sortB (tagL L) = S at *
      have hlb := le_plusH (N := s1.next) (.cells 9 (cellsT S ks)) hle2.next b1
      have hbs := plusH_le hle2 hgx
      have hltb := plusH_lt (.cells 9 (cellsT S ks)) hcl.lt hle2.next hxlt
      have hgb := plusH_same σ s1.next x (.cells 9 (cellsT S ks))
      generalize plusH σ s1.next x (.cells 9 (cellsT S ks)) = σb at *
      simp -dsimp only [h3, h0, ↓preB, postB, genB, ↓reduceIte, Nat.reduceEqDiff, Int.reduceToNat, Int.reduceLE, Int.reduceLT, Nat.reduceAdd, Nat.reduceLeDiff, intBin, strBin, unD, extractD, lit1, lit2, lit3, keptD, boxR, D.one, D.pub1, D.cells, splice, cutOwn]
      refine pwp_loopG (fun (y : Nat × List ByteArray) env s => (y.1 ≤ L.length ∧ DedOf S y.1 y.2 ∧ ∃ d, Acc 9 1 σb y.2.length (y.2.map .str) d s ∧ env 5 = d) ∧ env 6 = .int .i64 (y.1:Nat) ∧ env 3 = .row x 0 L.length none 1) (fun y => L.length - y.1) (0, []) ?_ ?_
      · simp only [upd_apply, h3, Nat.reduceEqDiff, if_true, if_false]
        exact ⟨⟨Nat.zero_le _, DedOf.nil S, _, Acc.nil hbs, rfl⟩, by simp⟩
      · rintro ⟨i, O⟩ env s2 ⟨⟨hi, hD, d, hAcc, h5⟩, h6, h3⟩
        simp only at hi hD hAcc h6
        have hle3 := hlb.trans hAcc.le
        have hgx2 := hAcc.le.get _ _ hgb
        by_cases c1 : i < L.length
        · have hg1 : (cellsT S ks)[i]? = some (.str (S[i]'(by omega))) := cellsT_get (by omega) ks
          have wi : IntKind.i64.wrap ((i : Int) + 1) = ((i + 1 : Nat) : Int) := wrap64_succ (by simp only [big]; omega)
          by_cases i0 : i = 0
          · subst i0
            have e0 : (((0 : Nat) : Int) == 0) = true := rfl
            simp -dsimp only [h3, h5, h6, c1, e0, gate, uTT, uTF, uFT, uFF, ↓preB, postB, genB, ↓reduceIte, Nat.reduceEqDiff, Int.reduceToNat, Int.reduceLE, Int.reduceLT, Nat.reduceAdd, Nat.reduceLeDiff, intBin, strBin, unD, extractD, lit1, lit2, lit3, keptD, boxR, D.one, D.pub1, D.cells, splice, cutOwn]
            intro _
            refine draw_p _ rfl rfl rfl rfl ?_
            simp only [List.filterMap_cons, List.filterMap_nil, List.getElem?_cons_succ, List.getElem?_cons_zero, pOps, keepKind, hfKind, Bool.or_false, Bool.or_true, Bool.false_eq_true, if_true, if_false]
            simp -dsimp only [h3, h5, h6, c1, e0, hgx2, hg1, gate, uTT, uTF, uFT, uFF, ↓preB, postB, genB, ↓reduceIte, Nat.reduceEqDiff, Int.reduceToNat, Int.reduceLE, Int.reduceLT, Nat.reduceAdd, Nat.reduceLeDiff, intBin, strBin, unD, extractD, lit1, lit2, lit3, keptD, boxR, D.one, D.pub1, D.cells, splice, cutOwn]
            refine hAcc.appendL (m := 1) (ys := [.str (S[0]'(by omega))]) hltb tz23 rfl tz9 rfl rfl rfl (by decide) (by simp) (fedBy_sl (m := 1) tz23 rfl rfl) (by have := hD.le; simp only []; omega) (by have := hD.le; simp only [big]; omega) fun d1 s3 hA1 => ?_
            simp -dsimp only [h3, h6, ↓preB, postB, genB, ↓reduceIte, Nat.reduceEqDiff, Int.reduceToNat, Int.reduceLE, Int.reduceLT, Nat.reduceAdd, Nat.reduceLeDiff, intBin, strBin, unD, extractD, lit1, lit2, lit3, keptD, boxR, D.one, D.pub1, D.cells, splice, cutOwn]
            refine ⟨(1, O ++ [S[0]'(by omega)]), ⟨⟨by simp only []; omega, hD.push hSs (by omega) (fun h => absurd h (Nat.lt_irrefl _)), d1, by simpa using hA1, rfl⟩, rfl⟩, by simp only []; omega⟩
          · have e0 : ((i : Int) == 0) = false := by rw [beq_eq_false_iff_ne]; omega
            have hg2 : (cellsT S ks)[i - 1]? = some (.str (S[i - 1]'(by omega))) := cellsT_get (by omega) ks
            have w1 : IntKind.i64.wrap ((i : Int) - 1) = ((i - 1 : Nat) : Int) := by
              have := wsub (a := i) (b := 1) (by omega) (by simp only [big]; omega)
              exact this
            have p1 : ((i - 1 : Nat) : Int) < (L.length : Int) := by omega
            simp -dsimp only [h3, h5, h6, c1, e0, gate, uTT, uTF, uFT, uFF, ↓preB, postB, genB, ↓reduceIte, Nat.reduceEqDiff, Int.reduceToNat, Int.reduceLE, Int.reduceLT, Nat.reduceAdd, Nat.reduceLeDiff, intBin, strBin, unD, extractD, lit1, lit2, lit3, keptD, boxR, D.one, D.pub1, D.cells, splice, cutOwn]
            intro _
            refine draw_p _ rfl rfl rfl rfl ?_
            simp only [List.filterMap_cons, List.filterMap_nil, List.getElem?_cons_succ, List.getElem?_cons_zero, pOps, keepKind, hfKind, Bool.or_false, Bool.or_true, Bool.false_eq_true, if_true, if_false]
            cases hb : ((S[i]'(by omega)) == (S[i - 1]'(by omega)))
            · simp -dsimp only [h3, h5, h6, c1, e0, w1, p1, hgx2, hg1, hg2, hb, gate, uTT, uTF, uFT, uFF, ↓preB, postB, genB, ↓reduceIte, Nat.reduceEqDiff, Int.reduceToNat, Int.reduceLE, Int.reduceLT, Nat.reduceAdd, Nat.reduceLeDiff, intBin, strBin, unD, extractD, lit1, lit2, lit3, keptD, boxR, D.one, D.pub1, D.cells, splice, cutOwn]
              refine hAcc.appendL (m := 1) (ys := [.str (S[i]'(by omega))]) hltb tz23 rfl tz9 rfl rfl rfl (by decide) (by simp) (fedBy_sl (m := 1) tz23 rfl rfl) (by have := hD.le; simp only []; omega) (by have := hD.le; simp only [big]; omega) fun d1 s3 hA1 => ?_
              simp -dsimp only [h3, h6, wi, ↓preB, postB, genB, ↓reduceIte, Nat.reduceEqDiff, Int.reduceToNat, Int.reduceLE, Int.reduceLT, Nat.reduceAdd, Nat.reduceLeDiff, intBin, strBin, unD, extractD, lit1, lit2, lit3, keptD, boxR, D.one, D.pub1, D.cells, splice, cutOwn]
              refine ⟨(i + 1, O ++ [S[i]'(by omega)]), ⟨⟨by simp only []; omega, hD.push hSs (by omega) (fun _ e => by rw [e, ba_refl] at hb; cases hb), d1, by simpa using hA1, rfl⟩, rfl⟩, by simp only []; omega⟩
            · simp -dsimp only [h3, h5, h6, c1, e0, w1, wi, p1, hgx2, hg1, hg2, hb, gate, uTT, uTF, uFT, uFF, ↓preB, postB, genB, ↓reduceIte, Nat.reduceEqDiff, Int.reduceToNat, Int.reduceLE, Int.reduceLT, Nat.reduceAdd, Nat.reduceLeDiff, intBin, strBin, unD, extractD, lit1, lit2, lit3, keptD, boxR, D.one, D.pub1, D.cells, splice, cutOwn]
              exact ⟨(i + 1, O), ⟨⟨by simp only []; omega, hD.keep (by omega) (by omega) (ba_eq hb), d, hAcc, rfl⟩, rfl⟩, by simp only []; omega⟩
        · have hiL : i = L.length := by omega
          subst hiL
          simp -dsimp only [h3, h5, h6, Nat.lt_irrefl, ↓preB, postB, genB, ↓reduceIte, Nat.reduceEqDiff, Int.reduceToNat, Int.reduceLE, Int.reduceLT, Nat.reduceAdd, Nat.reduceLeDiff, intBin, strBin, unD, extractD, lit1, lit2, lit3, keptD, boxR, D.one, D.pub1, D.cells, splice, cutOwn]
          intro _
          refine Ret.told σ (encSS O) (Nat.le_refl _) hle3 hcl ?_ (Bel.no (bel_strs O)) ⟨rfl, O, hD, rfl⟩
          have := hAcc.told (τ := s2) (τ' := σ)
          unfold encSS
          simpa using this
end Go.Proofs.Ythchlpikcpidaaa.Vs

/- numbers of Ythchlpikcpidaaa -/
namespace Go.Proofs.Ythchlpikcpidaaa.Vs
set_option linter.unusedVariables false
set_option linter.unusedSimpArgs false
set_option maxRecDepth 100000
def ltG (key : ByteArray → Int) (x y : ByteArray) : Prop := key y < key x ∨ (key x = key y ∧ strLt x y = true)
theorem Acc.setL {e : TypeId} {z r n : Nat} {x o : AO} {σ0 σ : Heap} {cs : List D} {d : D} (h : Acc e z σ0 n cs d σ) (hc : ∀ r o, σ0.get r = some o → r < σ0.next) (hr : σ0.get r = some o) : σ.get r = some o ∧ Acc e z (σ0.set r x) n cs d (σ.set r x) := by
  refine ⟨h.le.get r o hr, ?_⟩
  rcases h with ⟨h1, h2, h3, h4⟩ | ⟨h1, h4⟩ | ⟨q, h1, h2, h3, h4⟩
  · exact .inl ⟨h1, h2, h3, h4.set_both r x⟩
  · exact .inr (.inl ⟨h1, h4.set_both r x⟩)
  · have hne : q ≠ r := fun e => by have := hc r o hr; omega
    exact .inr (.inr ⟨q, h1, h2, by rw [Heap.set_ne _ _ hne]; exact h3, h4.set_both r x⟩)
/-- What is chosen so far. -/
structure SelOf (key : ByteArray → Int) (O : List ByteArray) (N : List Int) (U : List ByteArray) : Prop where
  len : N.length = O.length
  nd : U.Nodup
  sub : ∀ t ∈ U, t ∈ O
  num : ∀ i (h : i < O.length) (h2 : i < N.length), (O[i] ∈ U → N[i] = -1) ∧ (O[i] ∉ U → N[i] = key O[i])
  so : U.Pairwise (ltG key)
  rest : ∀ u ∈ U, ∀ t ∈ O, t ∉ U → ltG key u t
section
variable {key : ByteArray → Int} {O : List ByteArray}
theorem SelOf.nil (O : List ByteArray) : SelOf key O (O.map key) [] := ⟨by simp, List.nodup_nil, fun t h => (by cases h), fun i h h2 => ⟨fun h => (by cases h), fun _ => by simp⟩, List.Pairwise.nil, fun u h => (by cases h)⟩
theorem len_sub {U O : List ByteArray} (h : U.Nodup) (hO : O.Nodup) (hs : ∀ t ∈ U, t ∈ O) : U.length ≤ O.length := by
  classical
  have hp : U.Perm (O.filter fun t => decide (t ∈ U)) := by
    rw [List.perm_ext_iff_of_nodup h (List.Pairwise.filter _ hO)]
    exact fun t => ⟨fun ht => List.mem_filter.2 ⟨hs t ht, by simpa using ht⟩, fun ht => by simpa using (List.mem_filter.1 ht).2⟩
  rw [hp.length_eq]
  exact List.length_filter_le _ _
theorem SelOf.le {N : List Int} {U : List ByteArray} (h : SelOf key O N U) (hO : O.Nodup) : U.length ≤ O.length := len_sub h.nd hO h.sub
theorem SelOf.step {N : List Int} {U : List ByteArray} (h : SelOf key O N U) (hO : O.Pairwise fun a b => strLt a b = true) (hk0 : ∀ t, 0 ≤ key t) (hlt : U.length < O.length) {k : Nat} (hk : k < O.length)
    (hmax : ∀ j (hj : j < N.length), N[j] < N[k]'(by rw [h.len]; exact hk) ∨ (N[j] = N[k]'(by rw [h.len]; exact hk) ∧ k ≤ j)) : SelOf key O (N.set k (-1)) (U ++ [O[k]]) := by
  have hnd : O.Nodup := hO.imp fun {a b} h e => by subst e; rw [strLt_irrefl] at h; cases h
  have hkN : k < N.length := by rw [h.len]; exact hk
  obtain ⟨i, hi, hiU⟩ : ∃ i, ∃ hi : i < O.length, O[i] ∉ U := Classical.byContradiction fun hc => by
    have hall : ∀ t, t ∈ O → t ∈ U := fun t ht => by
      obtain ⟨i, hi, rfl⟩ := List.getElem_of_mem ht
      exact Classical.byContradiction fun hn => hc ⟨i, hi, hn⟩
    have hp : U.Perm O := by
      rw [List.perm_ext_iff_of_nodup h.nd hnd]
      exact fun t => ⟨h.sub t, hall t⟩
    rw [hp.length_eq] at hlt
    exact Nat.lt_irrefl _ hlt
  have hkU : O[k] ∉ U := fun hk2 => by
    have h1 := (h.num k hk hkN).1 hk2
    have h2 := (h.num i hi (by rw [h.len]; exact hi)).2 hiU
    have h3 := hk0 O[i]
    have h4 := hmax i (by rw [h.len]; exact hi)
    omega
  have hne : ∀ j (hj : j < O.length), j ≠ k → O[j] ≠ O[k] := fun j hj hjk e => hjk ((List.getElem_inj hnd).1 e)
  have hgk : ∀ t ∈ O, t ∉ U → t ≠ O[k] → ltG key O[k] t := fun t ht htU htk => by
    obtain ⟨j, hj, rfl⟩ := List.getElem_of_mem ht
    have h1 := (h.num k hk hkN).2 hkU
    have h2 := (h.num j hj (by rw [h.len]; exact hj)).2 htU
    have h4 := hmax j (by rw [h.len]; exact hj)
    rw [h1, h2] at h4
    rcases h4 with h4 | ⟨h4, h5⟩
    · exact .inl h4
    · have hjk : k < j := by
        rcases Nat.lt_or_eq_of_le h5 with h6 | h6
        · exact h6
        · subst h6; exact absurd rfl htk
      exact .inr ⟨h4.symm, List.pairwise_iff_getElem.1 hO k j hk hj hjk⟩
  refine ⟨by rw [List.length_set]; exact h.len, ?_, ?_, ?_, ?_, ?_⟩
  · rw [List.nodup_append]
    exact ⟨h.nd, by simp, fun a ha b hb => by simp at hb; subst hb; exact fun e => hkU (e ▸ ha)⟩
  · intro t ht
    rcases List.mem_append.1 ht with ht | ht
    · exact h.sub t ht
    · simp at ht; subst ht; exact List.getElem_mem hk
  · intro j hj h2
    rw [List.getElem_set]
    by_cases hjk : k = j
    · subst hjk; rw [if_pos rfl]; exact ⟨fun _ => rfl, fun h => absurd (by simp) h⟩
    · rw [if_neg hjk]
      have : (O[j] ∈ U ++ [O[k]]) ↔ O[j] ∈ U := by
        rw [List.mem_append, List.mem_singleton]
        exact ⟨fun h => h.elim id fun e => absurd e (hne j hj fun e => hjk e.symm), .inl⟩
      rw [this]
      exact h.num j hj (by rw [h.len]; exact hj)
  · rw [List.pairwise_append]
    exact ⟨h.so, List.pairwise_singleton _ _, fun a ha b hb => by simp at hb; subst hb; exact h.rest a ha _ (List.getElem_mem hk) hkU⟩
  · intro u hu t ht htU
    have ht1 : t ∉ U := fun h => htU (List.mem_append.2 (.inl h))
    have ht2 : t ≠ O[k] := fun e => htU (List.mem_append.2 (.inr (by simp [e])))
    rcases List.mem_append.1 hu with hu | hu
    · exact h.rest u hu t ht ht1
    · simp at hu; subst hu; exact hgk t ht ht1 ht2
end
def keyR (L : List Smp) (w : Wd) (t : ByteArray) : Int := (chV (fun e => tagV L e t) (fun e => cnt L e noB) w).1
theorem keyR_nonneg {L : List Smp} (hF : Fine L) (w : Wd) (t : ByteArray) : 0 ≤ keyR L w t :=
  (chF_bound (a := fun e => tagV L e t) (b := fun e => cnt L e noB) (w := w) (fun e => tag_ok hF e t) (min w.length 4) 1 (tagV L [] t) (cnt L [] noB) (by omega) (tag_ok hF [] t).1 (tag_ok hF [] t).2.1 (Int.le_trans (tag_ok hF [] t).2.2 (by decide))).1
theorem refRank_p (L : List Smp) (q : Nat) (w : Wd) (hL : L.length ≤ 100000) (hF : Fine L) (σ : Heap) (h : RGat L q σ) :
    PCall Zs 18 [.ptr q 0, encSS w] σ (fun d τ => τ = σ ∧ ((askE (decide (L = [])) [w] ≠ 0 ∧ d = .tup [.sl .nil 0 [], .int .i64 (askE (decide (L = [])) [w])]) ∨
      (askE (decide (L = [])) [w] = 0 ∧ ∃ O U, DedOf (sortB (tagL L)) L.length O ∧ U.Perm O ∧ U.Pairwise (ltG (keyR L w)) ∧ d = .tup [encSS U, .int .i64 0]))) := by
  refine pcall_of (Z := Zs) ok18 fun hcl hbl => ?_
  simp -dsimp only [L18, encSS, ↓preB, postB, genB, ↓reduceIte, Nat.reduceEqDiff, Int.reduceToNat, Int.reduceLE, Int.reduceLT, Nat.reduceAdd, Nat.reduceLeDiff, intBin, strBin, unD, extractD, lit1, lit2, lit3, keptD, boxR, D.one, D.pub1, D.cells, splice, cutOwn]
  refine PCall.useP (asked_c L q [w] σ h) rfl ?_
  rintro _ _ ⟨rfl, rfl⟩
  rename_i σ
  by_cases c0 : askE (decide (L = [])) [w] = 0
  · have c0' : (askE (decide (L = [])) [w] != 0) = false := by rw [c0]; rfl
    have hne : L ≠ [] := fun e => by
      subst e
      revert c0
      unfold askE
      split
      · exact fun h1 => absurd h1 ‹_›
      · intro h1; cases h1
    simp -dsimp only [c0', ↓preB, postB, genB, ↓reduceIte, Nat.reduceEqDiff, Int.reduceToNat, Int.reduceLE, Int.reduceLT, Nat.reduceAdd, Nat.reduceLeDiff, intBin, strBin, unD, extractD, lit1, lit2, lit3, keptD, boxR, D.one, D.pub1, D.cells, splice, cutOwn]
    refine PCall.use (refTags_p L q hL hne σ h) ?_
    rintro _ _ ⟨rfl, O, hD, rfl⟩
    rename_i σ
    have hOn : O.length ≤ 100000 := Nat.le_trans hD.le hL
    have hOnd : O.Nodup := hD.so.imp fun {a b} h e => by subst e; rw [strLt_irrefl] at h; cases h
    simp -dsimp only [encSS, ↓preB, postB, genB, ↓reduceIte, Nat.reduceEqDiff, Int.reduceToNat, Int.reduceLE, Int.reduceLT, Nat.reduceAdd, Nat.reduceLeDiff, intBin, strBin, unD, extractD, lit1, lit2, lit3, keptD, boxR, D.one, D.pub1, D.cells, splice, cutOwn]
    refine fun _ => ⟨by simp only [big]; omega, ?_⟩
    have hnl : ∀ o, HLe σ (σ.new o) := fun o => HLe.self_new _ hcl
    refine pwp_loopG (fun (i : Nat) env s => (i ≤ O.length ∧ s = σ.new (.cells 3 (((O.take i).map (keyR L w) ++ List.replicate (O.length - i) 0).map (.int .i64)))) ∧ env 9 = .int .i64 (i:Nat) ∧ env 8 = .row σ.next 0 O.length (some O.length) 1 ∧ env 7 = .sl .no O.length (O.map .str) ∧ env 0 = .ptr q 0 ∧ env 1 = .sl .no w.length (w.map .str)) (fun i => O.length - i) 0 ?_ ?_
    · simp only [upd_apply, envOf_apply, Nat.reduceEqDiff, if_true, if_false]
      refine ⟨⟨Nat.zero_le _, ?_⟩, by simp [envOf]⟩
      simp
    · rintro i env s ⟨⟨hi, rfl⟩, h9, h8, h7, h0, h1⟩
      by_cases c1 : i < O.length
      · have hOi : O[i]? = some O[i] := List.getElem?_eq_getElem c1
        have hOp : 0 < O.length := by omega
        have wi : IntKind.i64.wrap ((i : Int) + 1) = ((i + 1 : Nat) : Int) := wrap64_succ (by simp only [big]; omega)
        simp -dsimp only [h9, h8, h7, h0, h1, c1, hOi, hOp, List.getElem?_map, ↓preB, postB, genB, ↓reduceIte, Nat.reduceEqDiff, Int.reduceToNat, Int.reduceLE, Int.reduceLT, Nat.reduceAdd, Nat.reduceLeDiff, intBin, strBin, unD, extractD, lit1, lit2, lit3, keptD, boxR, D.one, D.pub1, D.cells, splice, cutOwn]
        intro _
        refine PCall.use (refchance_c L q w O[i] hL hF _ (h.less (hnl _))) ?_
        rintro _ _ ⟨rfl, rfl⟩
        simp -dsimp only [h9, h8, h7, h0, h1, c1, wi, ↓preB, postB, genB, ↓reduceIte, Nat.reduceEqDiff, Int.reduceToNat, Int.reduceLE, Int.reduceLT, Nat.reduceAdd, Nat.reduceLeDiff, intBin, strBin, unD, extractD, lit1, lit2, lit3, keptD, boxR, D.one, D.pub1, D.cells, splice, cutOwn]
        have hNl : ((O.take i).map (keyR L w) ++ List.replicate (O.length - i) (0 : Int)).length = O.length := by simp; omega
        have hst : ((O.take i).map (keyR L w) ++ List.replicate (O.length - i) (0 : Int)).set i (keyR L w O[i]) = (O.take (i + 1)).map (keyR L w) ++ List.replicate (O.length - (i + 1)) 0 := by
          have e1 : O.length - i = (O.length - (i + 1)) + 1 := by omega
          have e2 : ((O.take i).map (keyR L w)).length = i := by simp; omega
          rw [List.set_append_right _ _ (by omega), e2, Nat.sub_self, e1, List.replicate_succ, List.set_cons_zero, List.take_succ_eq_append_getElem c1, List.map_append]
          simp
        refine ⟨by omega, i + 1, ⟨⟨by omega, ?_⟩, rfl⟩, by omega⟩
        rw [← hst, splice_one (by simpa using (by omega : i < ((O.take i).map (keyR L w) ++ List.replicate (O.length - i) (0 : Int)).length)), List.map_set]
        rfl
      · have hiL : i = O.length := by omega
        subst hiL
        simp -dsimp only [h9, h8, h7, h0, h1, Nat.lt_irrefl, ↓preB, postB, genB, ↓reduceIte, Nat.reduceEqDiff, Int.reduceToNat, Int.reduceLE, Int.reduceLT, Nat.reduceAdd, Nat.reduceLeDiff, intBin, strBin, unD, extractD, lit1, lit2, lit3, keptD, boxR, D.one, D.pub1, D.cells, splice, cutOwn]
        intro _
        rw [List.take_length, Nat.sub_self, List.replicate_zero, List.append_nil]
        have hbl : ∀ x, ∀ r o, (σ.new x).get r = some o → r < (σ.new x).next := fun x => new_ltG hcl.lt x
        refine pwp_loopG (fun (x : List Int × List ByteArray) env s => (SelOf (keyR L w) O x.1 x.2 ∧ ∃ d, Acc 9 1 (σ.new (.cells 3 (x.1.map (.int .i64)))) x.2.length (x.2.map .str) d s ∧ env 10 = d) ∧ env 8 = .row σ.next 0 O.length (some O.length) 1 ∧ env 7 = .sl .no O.length (O.map .str)) (fun x => O.length - x.2.length) (O.map (keyR L w), []) ?_ ?_
        · simp only [upd_apply, h8, h7, Nat.reduceEqDiff, if_true, if_false]
          exact ⟨⟨SelOf.nil O, _, Acc.nil (HLe.refl _), rfl⟩, trivial, trivial⟩
        · clear h9 h8 h7 h0 h1
          rintro ⟨N, U⟩ env s ⟨⟨hS, d, hA, h10⟩, h8, h7⟩
          simp only at hS hA
          have hgN := hA.le.get _ _ (Heap.new_same _ _)
          have hUl := hS.le hOnd
          have hNl := hS.len
          obtain ⟨od, rfl⟩ := hA.is
          by_cases c2 : U.length < O.length
          · simp -dsimp only [h10, h8, h7, c2, ↓preB, postB, genB, ↓reduceIte, Nat.reduceEqDiff, Int.reduceToNat, Int.reduceLE, Int.reduceLT, Nat.reduceAdd, Nat.reduceLeDiff, intBin, strBin, unD, extractD, lit1, lit2, lit3, keptD, boxR, D.one, D.pub1, D.cells, splice, cutOwn]
            intro _ _
            refine pwp_loopJ 4 (fun env s' => (s' = s ∧ ∃ k, ∃ hk : k < O.length, (∀ j (hj : j < N.length), N[j] < N[k]'(by rw [hNl]; exact hk) ∨ (N[j] = N[k]'(by rw [hNl]; exact hk) ∧ k ≤ j)) ∧ env 11 = .int .i64 (k : Nat)) ∧ env 10 = .sl od U.length (U.map .str) ∧ env 8 = .row σ.next 0 O.length (some O.length) 1 ∧ env 7 = .sl .no O.length (O.map .str))
              (fun (x : Nat × Nat) env s' => (s' = s ∧ x.1 < x.2 ∧ x.2 ≤ O.length ∧ (∀ (hk : x.1 < N.length) j (hj : j < N.length), j < x.2 → N[j] < N[x.1] ∨ (N[j] = N[x.1] ∧ x.1 ≤ j))) ∧ env 11 = .int .i64 (x.1 : Nat) ∧ env 12 = .int .i64 (x.2 : Nat) ∧ env 10 = .sl od U.length (U.map .str) ∧ env 8 = .row σ.next 0 O.length (some O.length) 1 ∧ env 7 = .sl .no O.length (O.map .str)) (fun x => O.length - x.2) (0, 1) ?_ ?_ ?_
            · simp only [upd_apply, h10, h8, h7, Nat.reduceEqDiff, if_true, if_false]
              exact ⟨⟨trivial, by decide, by omega, fun hk j hj h1 => .inr (by
                have hj0 : j = 0 := by omega
                subst hj0
                exact ⟨rfl, Nat.le_refl _⟩)⟩, by simp⟩
            · clear h10 h8 h7
              rintro ⟨k, i⟩ env s' ⟨⟨rfl, q1, q2, q3⟩, h11, h12, h10, h8, h7⟩
              simp only at q1 q2 q3 h11 h12 ⊢
              by_cases ci : i < O.length
              · have g1 : N[i]? = some (N[i]'(by omega)) := List.getElem?_eq_getElem (by omega)
                have g2 : N[k]? = some (N[k]'(by omega)) := List.getElem?_eq_getElem (by omega)
                have hkO : k < O.length := by omega
                have wi : IntKind.i64.wrap ((i : Int) + 1) = ((i + 1 : Nat) : Int) := wrap64_succ (by simp only [big]; omega)
                simp -dsimp only [h11, h12, h10, h8, h7, ci, exitR_exit, exitR_ret, ↓preB, postB, genB, ↓reduceIte, Nat.reduceEqDiff, Int.reduceToNat, Int.reduceLE, Int.reduceLT, Nat.reduceAdd, Nat.reduceLeDiff, intBin, strBin, unD, extractD, lit1, lit2, lit3, keptD, boxR, D.one, D.pub1, D.cells, splice, cutOwn]
                intro _
                refine draw_p _ rfl rfl rfl rfl ?_
                simp only [List.filterMap_cons, List.filterMap_nil, List.getElem?_cons_succ, List.getElem?_cons_zero, pOps, keepKind, hfKind, Bool.or_false, Bool.or_true, Bool.false_eq_true, if_true, if_false]
                by_cases cc : N[k]'(by omega) < N[i]'(by omega)
                · simp -dsimp only [hgN, h11, h12, h10, h8, h7, ci, hkO, wi, g1, g2, cc, exitR_exit, exitR_ret, ↓preB, postB, genB, ↓reduceIte, Nat.reduceEqDiff, Int.reduceToNat, Int.reduceLE, Int.reduceLT, Nat.reduceAdd, Nat.reduceLeDiff, intBin, strBin, unD, extractD, lit1, lit2, lit3, keptD, boxR, D.one, D.pub1, D.cells, splice, cutOwn]
                  refine ⟨(i, i + 1), ⟨⟨by simp only []; omega, by simp only []; omega, fun hk j hj hji => ?_⟩, rfl, rfl⟩, by simp only []; omega⟩
                  simp only at hji hk ⊢
                  by_cases hj2 : j = i
                  · subst hj2; exact .inr ⟨rfl, Nat.le_refl _⟩
                  · have := q3 (by omega) j hj (by omega)
                    left; omega
                · simp -dsimp only [hgN, h11, h12, h10, h8, h7, ci, hkO, wi, g1, g2, cc, exitR_exit, exitR_ret, ↓preB, postB, genB, ↓reduceIte, Nat.reduceEqDiff, Int.reduceToNat, Int.reduceLE, Int.reduceLT, Nat.reduceAdd, Nat.reduceLeDiff, intBin, strBin, unD, extractD, lit1, lit2, lit3, keptD, boxR, D.one, D.pub1, D.cells, splice, cutOwn]
                  refine ⟨(k, i + 1), ⟨⟨by simp only []; omega, by simp only []; omega, fun hk j hj hji => ?_⟩, rfl, rfl⟩, by simp only []; omega⟩
                  simp only at hji hk ⊢
                  by_cases hj2 : j = i
                  · subst hj2; omega
                  · exact q3 (by omega) j hj (by omega)
              · have hio : i = O.length := by omega
                subst hio
                simp -dsimp only [h11, h12, h10, h8, h7, Nat.lt_irrefl, exitR_exit, exitR_ret, ↓preB, postB, genB, ↓reduceIte, Nat.reduceEqDiff, Int.reduceToNat, Int.reduceLE, Int.reduceLT, Nat.reduceAdd, Nat.reduceLeDiff, intBin, strBin, unD, extractD, lit1, lit2, lit3, keptD, boxR, D.one, D.pub1, D.cells, splice, cutOwn]
                exact fun _ => ⟨k, by omega, fun j hj => q3 (by omega) j hj (by omega), rfl⟩
            · clear h10 h8 h7
              rintro env s' ⟨⟨rfl, k, hk, hmax, h11⟩, h10, h8, h7⟩
              have hstep := hS.step hD.so (fun t => keyR_nonneg hF w t) c2 hk hmax
              have hOk : O[k]? = some O[k] := List.getElem?_eq_getElem hk
              have hOp : 0 < O.length := by omega
              simp -dsimp only [h11, h10, h8, h7, hk, hOk, hOp, List.getElem?_map, ↓preB, postB, genB, ↓reduceIte, Nat.reduceEqDiff, Int.reduceToNat, Int.reduceLE, Int.reduceLT, Nat.reduceAdd, Nat.reduceLeDiff, intBin, strBin, unD, extractD, lit1, lit2, lit3, keptD, boxR, D.one, D.pub1, D.cells, splice, cutOwn]
              refine hA.appendL (m := 1) (ys := [.str O[k]]) (hbl _) tz23 rfl tz9 rfl rfl rfl (by decide) (by simp) (fedBy_sl (m := 1) tz23 rfl rfl) (by simp only []; omega) (by simp only [big]; omega) fun d1 s3 hA1 => ?_
              have hg3 := hA1.le.get _ _ (Heap.new_same _ _)
              have hset := (hA1.setL (x := .cells 3 ((N.set k (-1)).map (.int .i64))) (hbl _) (Heap.new_same _ _)).2
              rw [Heap.new_set] at hset
              simp -dsimp only [h11, h10, h8, h7, hk, hg3, ↓preB, postB, genB, ↓reduceIte, Nat.reduceEqDiff, Int.reduceToNat, Int.reduceLE, Int.reduceLT, Nat.reduceAdd, Nat.reduceLeDiff, intBin, strBin, unD, extractD, lit1, lit2, lit3, keptD, boxR, D.one, D.pub1, D.cells, splice, cutOwn]
              rw [splice_one (by rw [List.length_map]; omega), ← List.map_set]
              exact ⟨by omega, (N.set k (-1), U ++ [O[k]]), ⟨hstep, d1, by simpa using hset, rfl⟩, by simp only [List.length_append, List.length_cons, List.length_nil]; omega⟩
          · have hUO : U.length = O.length := by omega
            simp -dsimp only [h10, h8, h7, c2, ↓preB, postB, genB, ↓reduceIte, Nat.reduceEqDiff, Int.reduceToNat, Int.reduceLE, Int.reduceLT, Nat.reduceAdd, Nat.reduceLeDiff, intBin, strBin, unD, extractD, lit1, lit2, lit3, keptD, boxR, D.one, D.pub1, D.cells, splice, cutOwn]
            intro _ _
            refine Ret.told σ (.tup [encSS U, .int .i64 0]) (Nat.le_refl _) ((hnl _).trans hA.le) hcl (.tup2 (.pub1 _ _ _) (.refl _)) (.tup2 (Bel.no (bel_strs U)) (.int _ _)) ⟨rfl, .inr ⟨c0, O, U, hD, ?_, hS.so, rfl⟩⟩
            rw [List.perm_ext_iff_of_nodup hS.nd hOnd]
            refine fun t => ⟨hS.sub t, fun ht => Classical.byContradiction fun hn => ?_⟩
            have hp : (t :: U).length ≤ O.length := len_sub (List.nodup_cons.2 ⟨hn, hS.nd⟩) hOnd fun u hu => by
              rcases List.mem_cons.1 hu with rfl | hu
              · exact ht
              · exact hS.sub u hu
            simp at hp
            omega
  · have c0' : (askE (decide (L = [])) [w] != 0) = true := by simpa using c0
    simp -dsimp only [c0', ↓preB, postB, genB, ↓reduceIte, Nat.reduceEqDiff, Int.reduceToNat, Int.reduceLE, Int.reduceLT, Nat.reduceAdd, Nat.reduceLeDiff, intBin, strBin, unD, extractD, lit1, lit2, lit3, keptD, boxR, D.one, D.pub1, D.cells, splice, cutOwn]
    exact Ret.now (Nat.le_refl _) ⟨rfl, .inl ⟨c0, rfl⟩⟩
end Go.Proofs.Ythchlpikcpidaaa.Vs
