import Derived.Test.YthchlpikcpidaaaSsC
import Derived.Test.YthchlpikcpidaaaLoopJ
/- numbers of Ythchlpikcpidaaa -/
namespace Go.Proofs.Ythchlpikcpidaaa.Vs
set_option linter.unusedVariables false
set_option linter.unusedSimpArgs false
set_option maxRecDepth 100000
theorem gTT : ((true : Bool) == true) = true := (rfl)
theorem gTF : ((true : Bool) == false) = false := (rfl)
theorem gFT : ((false : Bool) == true) = false := (rfl)
theorem gFF : ((false : Bool) == false) = true := (rfl)
/-- What the comparison answers, while the row is put in order. -/
def CmpAt (g : FuncId) (caps : List D) (cf : ByteArray → ByteArray → Int) (σ : Heap) (r : Nat) (js : List D) (l0 : List ByteArray) : Prop :=
  ∀ l', l'.Perm l0 → ∀ x ∈ l0, ∀ y ∈ l0, PCall Zs g ([.str x, .str y] ++ caps) (σ.set r (.cells 9 (cellsT l' js))) (fun d τ => d = .int .i64 (cf x y) ∧ τ = σ.set r (.cells 9 (cellsT l' js)))
theorem CmpAt.set {g : FuncId} {caps : List D} {cf : ByteArray → ByteArray → Int} {σ : Heap} {r : Nat} {js : List D} {l0 : List ByteArray} (h : CmpAt g caps cf σ r js l0) (o : AO) : CmpAt g caps cf (σ.set r o) r js l0 := fun l' hl x hx y hy => by
  rw [Heap.set_set]; exact h l' hl x hx y hy
theorem CmpAt.perm {g : FuncId} {caps : List D} {cf : ByteArray → ByteArray → Int} {σ : Heap} {r : Nat} {js : List D} {l0 l1 : List ByteArray} (h : CmpAt g caps cf σ r js l0) (hp : l0.Perm l1) : CmpAt g caps cf σ r js l1 := fun l' hl x hx y hy =>
  h l' (hl.trans hp.symm) x (hp.mem_iff.2 hx) y (hp.mem_iff.2 hy)
/-- x came ahead of y: the comparison tells whether they are to change. -/
def Fst (cf : ByteArray → ByteArray → Int) (T : ByteArray → ByteArray → Prop) (x y : ByteArray) : Prop := (cf y x < 0 → T y x) ∧ (0 ≤ cf y x → T x y)
section
variable {T : ByteArray → ByteArray → Prop} {cf : ByteArray → ByteArray → Int}
theorem perm_mid (P A B S : List ByteArray) (h : A.Perm B) : (P ++ (A ++ S)).Perm (P ++ (B ++ S)) := (h.append_right S).append_left P
theorem insert_p (tr : ∀ {a b c : ByteArray}, T a b → T b c → T a c) (P X S : List ByteArray) (hX : X.Pairwise (Fst cf T)) (js : List D) (r : Nat) (c : Option Nat) (g : FuncId) (caps : List D) {n : Nat} (hn : n = (P ++ (X ++ S)).length) {σ : Heap} (hr : σ.get r = some (.cells 9 (cellsT (P ++ (X ++ S)) js))) (hl : n ≤ 100000)
    (hc : CmpAt g caps cf σ r js (P ++ (X ++ S))) :
    PCall Zs 66 [.row r 0 n c 1, .int .i64 P.length, .int .i64 (P.length + X.length : Nat), .func g caps] σ (fun d τ => d = .tup [] ∧ ∃ Z, Z.Perm X ∧ Z.Pairwise T ∧ τ = σ.set r (.cells 9 (cellsT (P ++ (Z ++ S)) js))) := by
  have hlen : n = P.length + X.length + S.length := by rw [hn]; simp only [List.length_append]; omega
  refine pcall_of (Z := Zs) ok66 fun hcl hbl => ?_
  simp -dsimp only [L66, ↓preB, postB, genB, ↓reduceIte, Nat.reduceEqDiff, Int.reduceToNat, Int.reduceLE, Int.reduceLT, Nat.reduceAdd, Nat.reduceLeDiff, intBin, strBin, unD, extractD, lit1, lit2, lit3, keptD, boxR, D.one, D.pub1, D.cells, splice, cutOwn]
  have wa : IntKind.i64.wrap ((P.length : Int) + 1) = ((P.length + 1 : Nat) : Int) := wrap64_succ (by simp only [big]; omega)
  refine pwp_loopG (fun (x : Nat × List ByteArray) env s => (1 ≤ x.1 ∧ (x.1 ≤ X.length ∨ x.1 = 1) ∧ x.2.Perm (X.take x.1) ∧ x.2.Pairwise T ∧ s = σ.set r (.cells 9 (cellsT (P ++ (x.2 ++ (X.drop x.1 ++ S))) js))) ∧ env 8 = .int .i64 (P.length + x.1 : Nat) ∧ env 0 = .row r 0 n c 1 ∧ env 1 = .int .i64 P.length ∧ env 2 = .int .i64 (P.length + X.length : Nat) ∧ env 3 = .func g caps) (fun x => X.length + 1 - x.1) (1, X.take 1) ?_ ?_
  · simp only [upd_apply, envOf_apply, Nat.reduceEqDiff, if_true, if_false]
    refine ⟨⟨Nat.le_refl _, .inr trivial, .refl _, ?_, ?_⟩, by simp [envOf, wa]⟩
    · match X with
      | [] => exact List.Pairwise.nil
      | x :: _ => simp
    · rw [← List.append_assoc (X.take 1), List.take_append_drop, Heap.set_selfR hr]
  · rintro ⟨k, Z⟩ env s ⟨⟨k1, k2, hZp, hZs, rfl⟩, h8, h0, h1, h2, h3⟩
    simp only at k1 k2 hZp hZs h8 h0 h1 h2 h3 ⊢
    by_cases ck : k < X.length
    · have q1 : ((P.length + k : Nat) : Int) < ((P.length + X.length : Nat) : Int) := by omega
      have hZl : Z.length = k := by rw [hZp.length_eq, List.length_take]; omega
      have hdk : X.drop k = X[k] :: X.drop (k + 1) := List.drop_eq_getElem_cons ck
      have hperm : ∀ Z1 Z2 : List ByteArray, Z1 ++ Z2 = Z → (P ++ ((Z1 ++ X[k] :: Z2) ++ (X.drop (k + 1) ++ S))).Perm (P ++ (X ++ S)) := fun Z1 Z2 h12 => by
        have e1 : (Z1 ++ X[k] :: Z2).Perm (X.take (k + 1)) := by
          rw [List.take_succ_eq_append_getElem ck]
          refine List.perm_middle.trans ?_
          rw [h12]
          exact (List.Perm.cons _ hZp).trans (List.perm_append_singleton _ _).symm
        have e2 : X ++ S = X.take (k + 1) ++ (X.drop (k + 1) ++ S) := by rw [← List.append_assoc, List.take_append_drop]
        rw [e2]
        exact perm_mid P _ _ _ e1
      have zperm : ∀ Z1 Z2 : List ByteArray, Z1 ++ Z2 = Z → (Z1 ++ X[k] :: Z2).Perm (X.take (k + 1)) := fun Z1 Z2 h12 => by
        rw [List.take_succ_eq_append_getElem ck]
        refine List.perm_middle.trans ?_
        rw [h12]
        exact (List.Perm.cons _ hZp).trans (List.perm_append_singleton _ _).symm
      have hmemZ : ∀ z ∈ Z, z ∈ X.take k := fun z hz => hZp.mem_iff.1 hz
      have hfst : ∀ z ∈ Z, Fst cf T z X[k] := fun z hz => by
        have hz' := hmemZ z hz
        rw [← List.take_append_drop k X, List.pairwise_append] at hX
        exact hX.2.2 z hz' _ (by rw [hdk]; exact List.mem_cons_self)
      simp -dsimp only [h8, h0, h1, h2, h3, q1, ↓preB, postB, genB, ↓reduceIte, Nat.reduceEqDiff, Int.reduceToNat, Int.reduceLE, Int.reduceLT, Nat.reduceAdd, Nat.reduceLeDiff, intBin, strBin, unD, extractD, lit1, lit2, lit3, keptD, boxR, D.one, D.pub1, D.cells, splice, cutOwn]
      refine pwp_loopJ 2 (fun env s => (∃ Z', Z'.Perm (X.take (k + 1)) ∧ Z'.Pairwise T ∧ s = σ.set r (.cells 9 (cellsT (P ++ (Z' ++ (X.drop (k + 1) ++ S))) js))) ∧ env 8 = .int .i64 (P.length + k : Nat) ∧ env 0 = .row r 0 n c 1 ∧ env 1 = .int .i64 P.length ∧ env 2 = .int .i64 (P.length + X.length : Nat) ∧ env 3 = .func g caps)
        (fun (x : List ByteArray × List ByteArray) env s => (x.1 ++ x.2 = Z ∧ (∀ z ∈ x.2, T X[k] z) ∧ s = σ.set r (.cells 9 (cellsT (P ++ ((x.1 ++ X[k] :: x.2) ++ (X.drop (k + 1) ++ S))) js))) ∧ env 9 = .int .i64 (P.length + x.1.length : Nat) ∧ env 8 = .int .i64 (P.length + k : Nat) ∧ env 0 = .row r 0 n c 1 ∧ env 1 = .int .i64 P.length ∧ env 2 = .int .i64 (P.length + X.length : Nat) ∧ env 3 = .func g caps) (fun x => x.1.length) (Z, []) ?_ ?_ ?_
      · simp only [upd_apply, h8, h0, h1, h2, h3, hZl, Nat.reduceEqDiff, if_true, if_false]
        exact ⟨⟨by simp, fun z hz => (by cases hz), by rw [hdk]; simp only [List.append_assoc, List.cons_append, List.nil_append]⟩, by simp⟩
      · rintro ⟨Z1, Z2⟩ env s ⟨⟨h12, hT2, rfl⟩, h9, h8, h0, h1, h2, h3⟩
        simp only at h12 hT2 h9 h8 h0 h1 h2 h3 ⊢
        generalize hj : P.length + Z1.length = j at *
        have hZ1 : Z1.length ≤ k := by rw [← hZl, ← h12, List.length_append]; omega
        by_cases cj : P.length < j
        · obtain ⟨Z0, z, rfl⟩ : ∃ Z0 z, Z1 = Z0 ++ [z] := ⟨_, _, (List.dropLast_concat_getLast (List.ne_nil_of_length_pos (by omega))).symm⟩
          have hj0 : j = (P ++ Z0).length + 1 := by rw [← hj]; simp only [List.length_append, List.length_cons, List.length_nil]; omega
          have hL : P ++ ((Z0 ++ [z] ++ X[k] :: Z2) ++ (X.drop (k + 1) ++ S)) = (P ++ Z0) ++ z :: X[k] :: (Z2 ++ (X.drop (k + 1) ++ S)) := by simp
          have hpm := hperm _ _ h12
          rw [hL] at hpm ⊢
          generalize hB : Z2 ++ (X.drop (k + 1) ++ S) = B at *
          have hln : ((P ++ Z0) ++ z :: X[k] :: B).length = n := by rw [hpm.length_eq, ← hn]
          have hln2 : (P ++ Z0).length + 2 + B.length = n := by rw [← hln]; simp only [List.length_append, List.length_cons]; omega
          have w1 : IntKind.i64.wrap ((j : Int) - 1) = (((P ++ Z0).length : Nat) : Int) := by
            have := wsub (a := j) (b := 1) (by omega) (by simp only [big]; omega)
            rw [show j - 1 = (P ++ Z0).length by omega] at this
            exact this
          obtain ⟨t1, t2⟩ := get_two (P ++ Z0) B z X[k]
          have g1 : (cellsT ((P ++ Z0) ++ z :: X[k] :: B) js)[(P ++ Z0).length]? = some (.str z) := by
            rw [cellsT_get (by rw [hln]; omega)]
            rw [List.getElem?_eq_getElem (by rw [hln]; omega)] at t1
            rw [Option.some.inj t1]
          have g2 : (cellsT ((P ++ Z0) ++ z :: X[k] :: B) js)[j]? = some (.str X[k]) := by
            rw [cellsT_get (by rw [hln]; omega)]
            rw [← hj0, List.getElem?_eq_getElem (by rw [hln]; omega)] at t2
            rw [Option.some.inj t2]
          have p1 : (j : Int) < (n : Int) := by omega
          have p2 : (((P ++ Z0).length : Nat) : Int) < (n : Int) := by omega
          have hcall := hc _ hpm X[k] (hpm.mem_iff.1 (by simp)) z (hpm.mem_iff.1 (by simp))
          simp -dsimp only [h9, h8, h0, h1, h2, h3, cj, gate, gTT, gTF, gFT, gFF, decide_true, decide_false, exitR_exit, exitR_ret, ↓preB, postB, genB, ↓reduceIte, Nat.reduceEqDiff, Int.reduceToNat, Int.reduceLE, Int.reduceLT, Nat.reduceAdd, Nat.reduceLeDiff, intBin, strBin, unD, extractD, lit1, lit2, lit3, keptD, boxR, D.one, D.pub1, D.cells, splice, cutOwn]
          refine draw_p _ rfl rfl rfl rfl ?_
          simp only [List.filterMap_cons, List.filterMap_nil, List.getElem?_cons_succ, List.getElem?_cons_zero, pOps, keepKind, hfKind, Bool.or_false, Bool.or_true, Bool.false_eq_true, if_true, if_false]
          simp -dsimp only [h9, h8, h0, h1, h2, h3, cj, w1, g1, g2, p1, p2, gate, gTT, gTF, gFT, gFF, decide_true, decide_false, exitR_exit, exitR_ret, ↓preB, postB, genB, ↓reduceIte, Nat.reduceEqDiff, Int.reduceToNat, Int.reduceLE, Int.reduceLT, Nat.reduceAdd, Nat.reduceLeDiff, intBin, strBin, unD, extractD, lit1, lit2, lit3, keptD, boxR, D.one, D.pub1, D.cells, splice, cutOwn]
          refine PCall.use hcall ?_
          rintro _ _ ⟨rfl, rfl⟩
          have hzf := hfst z (by rw [← h12]; simp)
          by_cases cc : cf X[k] z < 0
          · simp -dsimp only [h9, h8, h0, h1, h2, h3, cj, cc, gate, gTT, gTF, gFT, gFF, decide_true, decide_false, exitR_exit, exitR_ret, ↓preB, postB, genB, ↓reduceIte, Nat.reduceEqDiff, Int.reduceToNat, Int.reduceLE, Int.reduceLT, Nat.reduceAdd, Nat.reduceLeDiff, intBin, strBin, unD, extractD, lit1, lit2, lit3, keptD, boxR, D.one, D.pub1, D.cells, splice, cutOwn]
            refine draw_p _ rfl rfl rfl rfl ?_
            simp only [List.filterMap_cons, List.filterMap_nil, List.getElem?_cons_succ, List.getElem?_cons_zero, pOps, keepKind, hfKind, Bool.or_false, Bool.or_true, Bool.false_eq_true, if_true, if_false]
            have s1 := cellsT_set (l := (P ++ Z0) ++ z :: X[k] :: B) (j := j) (by rw [hln]; omega) js z
            have s2 := cellsT_set (l := ((P ++ Z0) ++ z :: X[k] :: B).set j z) (j := (P ++ Z0).length) (by rw [List.length_set, hln]; omega) js X[k]
            have hsw : (((P ++ Z0) ++ z :: X[k] :: B).set j z).set (P ++ Z0).length X[k] = (P ++ Z0) ++ X[k] :: z :: B := by rw [hj0]; exact set_two' _ _ _ _
            rw [hsw] at s2
            have hcl1 : j + 1 ≤ (cellsT ((P ++ Z0) ++ z :: X[k] :: B) js).length := by rw [cellsT_len, hln]; omega
            have hcl2 : (P ++ Z0).length + 1 ≤ (cellsT (((P ++ Z0) ++ z :: X[k] :: B).set j z) js).length := by rw [cellsT_len, List.length_set, hln]; omega
            simp -dsimp only [h9, h8, h0, h1, h2, h3, cj, cc, w1, g1, g2, p1, p2, s1, s2, hcl1, hcl2, gate, gTT, gTF, gFT, gFF, decide_true, decide_false, exitR_exit, exitR_ret, ↓preB, postB, genB, ↓reduceIte, Nat.reduceEqDiff, Int.reduceToNat, Int.reduceLE, Int.reduceLT, Nat.reduceAdd, Nat.reduceLeDiff, intBin, strBin, unD, extractD, lit1, lit2, lit3, keptD, boxR, D.one, D.pub1, D.cells, splice, cutOwn]
            refine ⟨(Z0, z :: Z2), ⟨⟨by rw [← h12]; simp, ?_, ?_⟩, by simp only [List.length_append]⟩, by simp⟩
            · intro u hu
              rcases List.mem_cons.1 hu with rfl | hu
              · exact hzf.1 cc
              · exact hT2 u hu
            · rw [← hB]; simp only [List.append_assoc, List.cons_append, List.nil_append]
          · simp -dsimp only [h9, h8, h0, h1, h2, h3, cj, cc, gate, gTT, gTF, gFT, gFF, decide_true, decide_false, exitR_exit, exitR_ret, ↓preB, postB, genB, ↓reduceIte, Nat.reduceEqDiff, Int.reduceToNat, Int.reduceLE, Int.reduceLT, Nat.reduceAdd, Nat.reduceLeDiff, intBin, strBin, unD, extractD, lit1, lit2, lit3, keptD, boxR, D.one, D.pub1, D.cells, splice, cutOwn]
            refine ⟨Z0 ++ [z] ++ X[k] :: Z2, zperm _ _ h12, insert_mid (T := T) tr (by rw [h12]; exact hZs) _ hT2 (fun u hu => ?_), ?_⟩
            · rw [List.getLast?_append] at hu
              simp at hu
              subst hu
              exact hzf.2 (by omega)
            · rw [← hB]; simp only [List.append_assoc, List.cons_append, List.nil_append]
        · obtain rfl : Z1 = [] := List.eq_nil_of_length_eq_zero (by omega)
          simp -dsimp only [h9, h8, h0, h1, h2, h3, cj, gate, gTT, gTF, gFT, gFF, decide_true, decide_false, exitR_exit, exitR_ret, ↓preB, postB, genB, ↓reduceIte, Nat.reduceEqDiff, Int.reduceToNat, Int.reduceLE, Int.reduceLT, Nat.reduceAdd, Nat.reduceLeDiff, intBin, strBin, unD, extractD, lit1, lit2, lit3, keptD, boxR, D.one, D.pub1, D.cells, splice, cutOwn]
          refine draw_p _ rfl rfl rfl rfl ?_
          simp only [List.filterMap_cons, List.filterMap_nil, List.getElem?_cons_succ, List.getElem?_cons_zero, pOps, keepKind, hfKind, Bool.or_false, Bool.or_true, Bool.false_eq_true, if_true, if_false]
          simp -dsimp only [h9, h8, h0, h1, h2, h3, cj, gate, gTT, gTF, gFT, gFF, decide_true, decide_false, exitR_exit, exitR_ret, ↓preB, postB, genB, ↓reduceIte, Nat.reduceEqDiff, Int.reduceToNat, Int.reduceLE, Int.reduceLT, Nat.reduceAdd, Nat.reduceLeDiff, intBin, strBin, unD, extractD, lit1, lit2, lit3, keptD, boxR, D.one, D.pub1, D.cells, splice, cutOwn]
          refine ⟨X[k] :: Z2, ?_, ?_, rfl⟩
          · exact zperm [] Z2 h12
          · exact insert_mid (T := T) tr (Z1 := []) (by rw [h12]; exact hZs) _ hT2 (fun z hz => by cases hz)
      · rintro env s ⟨⟨Z', hp', hs', rfl⟩, h8, h0, h1, h2, h3⟩
        have w8 : IntKind.i64.wrap (((P.length + k : Nat) : Int) + 1) = ((P.length + (k + 1) : Nat) : Int) := wrap64_succ (by simp only [big]; omega)
        simp -dsimp only [h8, h0, h1, h2, h3, w8, ↓preB, postB, genB, ↓reduceIte, Nat.reduceEqDiff, Int.reduceToNat, Int.reduceLE, Int.reduceLT, Nat.reduceAdd, Nat.reduceLeDiff, intBin, strBin, unD, extractD, lit1, lit2, lit3, keptD, boxR, D.one, D.pub1, D.cells, splice, cutOwn]
        exact ⟨(k + 1, Z'), ⟨⟨by simp, .inl (by simp only []; omega), hp', hs', rfl⟩, by simp⟩, by simp only []; omega⟩
    · have q1 : ¬ (((P.length + k : Nat) : Int) < ((P.length + X.length : Nat) : Int)) := by omega
      simp -dsimp only [h8, h0, h1, h2, h3, q1, ↓preB, postB, genB, ↓reduceIte, Nat.reduceEqDiff, Int.reduceToNat, Int.reduceLE, Int.reduceLT, Nat.reduceAdd, Nat.reduceLeDiff, intBin, strBin, unD, extractD, lit1, lit2, lit3, keptD, boxR, D.one, D.pub1, D.cells, splice, cutOwn]
      have e1 : X.take k = X := List.take_of_length_le (by omega)
      have e2 : X.drop k = [] := List.drop_eq_nil_of_le (by omega)
      rw [e1] at hZp
      exact Ret.now (Nat.le_refl _) ⟨rfl, Z, hZp, hZs, by rw [e2, List.nil_append]⟩
end
end Go.Proofs.Ythchlpikcpidaaa.Vs

/- numbers of Ythchlpikcpidaaa -/
namespace Go.Proofs.Ythchlpikcpidaaa.Vs
set_option linter.unusedVariables false
set_option linter.unusedSimpArgs false
set_option maxRecDepth 100000
theorem mid_w {a b : Nat} (h : a + b ≤ 1000000) : IntKind.i64.wrap ((IntKind.u64.wrap (IntKind.i64.wrap ((a : Int) + (b : Int)))).fdiv (2 ^ min 1 IntKind.u64.bits)) = (((a + b) / 2 : Nat) : Int) := by
  have e0 : IntKind.i64.wrap ((a : Int) + (b : Int)) = (a : Int) + (b : Int) := wrap64_in (by omega) (by omega)
  have e1 : IntKind.u64.wrap ((a : Int) + (b : Int)) = ((a + b : Nat) : Int) := by
    simp [IntKind.wrap, IntKind.bits, IntKind.signed]; omega
  have e2 : (2 ^ min 1 IntKind.u64.bits : Int) = 2 := by decide
  rw [e0, e1, e2, Int.fdiv_eq_ediv_of_nonneg _ (by decide), wrap64_in (by omega) (by omega)]
  omega
theorem cellsT_mid {P X S : List ByteArray} {q : Nat} (h : q < X.length) (js : List D) : (cellsT (P ++ (X ++ S)) js)[P.length + q]? = some (.str X[q]) := by
  have hlt : P.length + q < (P ++ (X ++ S)).length := by simp only [List.length_append]; omega
  rw [cellsT_get hlt]
  congr 2
  rw [List.getElem_append_right (by omega)]
  simp only [Nat.add_sub_cancel_left]
  rw [List.getElem_append_left h]
section
variable {T : ByteArray → ByteArray → Prop} {cf : ByteArray → ByteArray → Int}
theorem merge1_p (tr : ∀ {a b c : ByteArray}, T a b → T b c → T a c) (P Y S : List ByteArray) (x : ByteArray) (hy : 0 < Y.length) (hY : Y.Pairwise T) (hXY : ∀ y ∈ Y, Fst cf T x y) (js : List D) (r : Nat) (c : Option Nat) (g : FuncId) (caps : List D) {n : Nat} (hn : n = (P ++ (x :: Y ++ S)).length) {σ : Heap} (hr : σ.get r = some (.cells 9 (cellsT (P ++ (x :: Y ++ S)) js))) (hl : n ≤ 100000)
    (hc : CmpAt g caps cf σ r js (P ++ (x :: Y ++ S))) :
    PCall Zs 67 [.row r 0 n c 1, .int .i64 P.length, .int .i64 (P.length + 1 : Nat), .int .i64 (P.length + 1 + Y.length : Nat), .func g caps] σ (fun d τ => d = .tup [] ∧ ∃ Z, Z.Perm (x :: Y) ∧ Z.Pairwise T ∧ τ = σ.set r (.cells 9 (cellsT (P ++ (Z ++ S)) js))) := by
  have hlen : n = P.length + 1 + Y.length + S.length := by rw [hn]; simp only [List.length_append, List.length_cons]; omega
  refine pcall_of (Z := Zs) ok67 fun hcl hbl => ?_
  simp -dsimp only [L67, ↓preB, postB, genB, ↓reduceIte, Nat.reduceEqDiff, Int.reduceToNat, Int.reduceLE, Int.reduceLT, Nat.reduceAdd, Nat.reduceLeDiff, intBin, strBin, unD, extractD, lit1, lit2, lit3, keptD, boxR, D.one, D.pub1, D.cells, splice, cutOwn]
  have w1 : IntKind.i64.wrap (((P.length + 1 : Nat) : Int) - (P.length : Int)) = 1 := by
    have := wsub (a := P.length + 1) (b := P.length) (by omega) (by simp only [big]; omega)
    rw [this, show P.length + 1 - P.length = 1 by omega]; rfl
  have e1 : ((1 : Int) == 1) = true := rfl
  simp -dsimp only [w1, e1, ↓preB, postB, genB, ↓reduceIte, Nat.reduceEqDiff, Int.reduceToNat, Int.reduceLE, Int.reduceLT, Nat.reduceAdd, Nat.reduceLeDiff, intBin, strBin, unD, extractD, lit1, lit2, lit3, keptD, boxR, D.one, D.pub1, D.cells, splice, cutOwn]
  refine pwp_loopJ 0 (fun env s => (s = σ ∧ ∃ i, i ≤ Y.length ∧ (∀ h : 0 < i, ∀ h2 : i - 1 < Y.length, T Y[i - 1] x) ∧ (∀ h : i < Y.length, T x Y[i]) ∧ env 10 = .int .i64 (P.length + 1 + i : Nat)) ∧ env 0 = .row r 0 n c 1 ∧ env 1 = .int .i64 P.length ∧ env 4 = .func g caps)
    (fun (x' : Nat × Nat) env s => (s = σ ∧ x'.1 ≤ x'.2 ∧ x'.2 ≤ Y.length ∧ (∀ h : 0 < x'.1, ∀ h2 : x'.1 - 1 < Y.length, T Y[x'.1 - 1] x) ∧ (∀ h : x'.2 < Y.length, T x Y[x'.2])) ∧ env 10 = .int .i64 (P.length + 1 + x'.1 : Nat) ∧ env 11 = .int .i64 (P.length + 1 + x'.2 : Nat) ∧ env 0 = .row r 0 n c 1 ∧ env 1 = .int .i64 P.length ∧ env 4 = .func g caps) (fun x' => x'.2 - x'.1) (0, Y.length) ?_ ?_ ?_
  · simp only [upd_apply, envOf_apply, Nat.reduceEqDiff, if_true, if_false]
    exact ⟨⟨trivial, Nat.zero_le _, Nat.le_refl _, fun h => absurd h (Nat.lt_irrefl _), fun h => absurd h (Nat.lt_irrefl _)⟩, by simp [envOf]⟩
  · rintro ⟨i, j⟩ env s ⟨⟨rfl, hij, hj, q1, q2⟩, h10, h11, h0, h1, h4⟩
    simp only at hij hj q1 q2 h10 h11 ⊢
    by_cases ci : i < j
    · have c1 : P.length + 1 + i < P.length + 1 + j := by omega
      simp -dsimp only [h10, h11, h0, h1, h4, c1, exitR_exit, exitR_ret, ↓preB, postB, genB, ↓reduceIte, Nat.reduceEqDiff, Int.reduceToNat, Int.reduceLE, Int.reduceLT, Nat.reduceAdd, Nat.reduceLeDiff, intBin, strBin, unD, extractD, lit1, lit2, lit3, keptD, boxR, D.one, D.pub1, D.cells, splice, cutOwn]
      have w2 := mid_w (a := P.length + 1 + i) (b := P.length + 1 + j) (by omega)
      obtain ⟨q, hq⟩ : ∃ q, q = (i + j) / 2 := ⟨_, rfl⟩
      rw [show (P.length + 1 + i + (P.length + 1 + j)) / 2 = P.length + (q + 1) by omega] at w2
      have hqY : q < Y.length := by omega
      have g1 := cellsT_mid (P := P) (X := x :: Y) (S := S) (q := q + 1) (by simp; omega) js
      have g2 := cellsT_mid (P := P) (X := x :: Y) (S := S) (q := 0) (by simp) js
      simp only [List.getElem_cons_succ, List.getElem_cons_zero, List.cons_append, Nat.add_zero] at g1 g2
      have p1 : ((P.length + (q + 1) : Nat) : Int) < (n : Int) := by omega
      have p2 : ((P.length : Nat) : Int) < (n : Int) := by omega
      have hcall := hc _ (.refl _) Y[q] (by simp) x (by simp)
      rw [Heap.set_selfR hr] at hcall
      refine draw_p _ rfl rfl rfl rfl ?_
      simp only [List.filterMap_cons, List.filterMap_nil, List.getElem?_cons_succ, List.getElem?_cons_zero, pOps, keepKind, hfKind, Bool.or_false, Bool.or_true, Bool.false_eq_true, if_true, if_false]
      simp -dsimp only [h10, h11, h0, h1, h4, w2, g1, g2, p1, p2, hr, exitR_exit, exitR_ret, ↓preB, postB, genB, ↓reduceIte, Nat.reduceEqDiff, Int.reduceToNat, Int.reduceLE, Int.reduceLT, Nat.reduceAdd, Nat.reduceLeDiff, intBin, strBin, unD, extractD, lit1, lit2, lit3, keptD, boxR, D.one, D.pub1, D.cells, splice, cutOwn]
      refine PCall.use hcall ?_
      rintro _ _ ⟨rfl, rfl⟩
      have hF := hXY Y[q] (List.getElem_mem hqY)
      by_cases cc : cf Y[q] x < 0
      · have w3 : IntKind.i64.wrap (((P.length + (q + 1) : Nat) : Int) + 1) = ((P.length + 1 + (q + 1) : Nat) : Int) := by
          rw [wrap64_succ (by simp only [big]; omega)]; congr 1; omega
        simp -dsimp only [h10, h11, h0, h1, h4, w2, w3, cc, exitR_exit, exitR_ret, ↓preB, postB, genB, ↓reduceIte, Nat.reduceEqDiff, Int.reduceToNat, Int.reduceLE, Int.reduceLT, Nat.reduceAdd, Nat.reduceLeDiff, intBin, strBin, unD, extractD, lit1, lit2, lit3, keptD, boxR, D.one, D.pub1, D.cells, splice, cutOwn]
        exact ⟨(q + 1, j), ⟨⟨by simp only []; omega, hj, fun h h2 => (by simpa using hF.1 cc), q2⟩, by simp⟩, by simp only []; omega⟩
      · simp -dsimp only [h10, h11, h0, h1, h4, w2, cc, exitR_exit, exitR_ret, ↓preB, postB, genB, ↓reduceIte, Nat.reduceEqDiff, Int.reduceToNat, Int.reduceLE, Int.reduceLT, Nat.reduceAdd, Nat.reduceLeDiff, intBin, strBin, unD, extractD, lit1, lit2, lit3, keptD, boxR, D.one, D.pub1, D.cells, splice, cutOwn]
        refine ⟨(i, q), ⟨⟨by simp only []; omega, by simp only []; omega, q1, fun h => (by simpa using hF.2 (by omega))⟩, ?_⟩, by simp only []; omega⟩
        simp only [true_and, and_true]
        congr 1; omega
    · have hije : i = j := by omega
      subst hije
      simp -dsimp only [h10, h11, h0, h1, h4, Nat.lt_irrefl, exitR_exit, exitR_ret, ↓preB, postB, genB, ↓reduceIte, Nat.reduceEqDiff, Int.reduceToNat, Int.reduceLE, Int.reduceLT, Nat.reduceAdd, Nat.reduceLeDiff, intBin, strBin, unD, extractD, lit1, lit2, lit3, keptD, boxR, D.one, D.pub1, D.cells, splice, cutOwn]
      exact ⟨i, hj, q1, q2, rfl⟩
  · rintro env s ⟨⟨rfl, i, hi, q1, q2, h10⟩, h0, h1, h4⟩
    have hins := insert_one (T := T) tr hY x hi (fun h => q1 h (by omega)) q2
    have w2 : IntKind.i64.wrap (((P.length + 1 + i : Nat) : Int) - 1) = ((P.length + i : Nat) : Int) := by
      have := wsub (a := P.length + 1 + i) (b := 1) (by omega) (by simp only [big]; omega)
      rw [show P.length + 1 + i - 1 = P.length + i by omega] at this
      exact this
    simp -dsimp only [h10, h0, h1, h4, ↓preB, postB, genB, ↓reduceIte, Nat.reduceEqDiff, Int.reduceToNat, Int.reduceLE, Int.reduceLT, Nat.reduceAdd, Nat.reduceLeDiff, intBin, strBin, unD, extractD, lit1, lit2, lit3, keptD, boxR, D.one, D.pub1, D.cells, splice, cutOwn]
    refine pwp_loopG (fun (k : Nat) env s' => (k ≤ i ∧ s' = s.set r (.cells 9 (cellsT (P ++ ((Y.take k ++ x :: Y.drop k) ++ S)) js))) ∧ env 13 = .int .i64 (P.length + k : Nat) ∧ env 10 = .int .i64 (P.length + 1 + i : Nat) ∧ env 0 = .row r 0 n c 1) (fun k => i - k) 0 ?_ ?_
    · simp only [upd_apply, h10, h0, h1, h4, Nat.reduceEqDiff, if_true, if_false, Nat.add_zero]
      exact ⟨⟨Nat.zero_le _, by rw [List.take_zero, List.drop_zero, List.nil_append, Heap.set_selfR hr]⟩, trivial, trivial, trivial⟩
    · rintro k env s' ⟨⟨hk, rfl⟩, h13, h10, h0⟩
      by_cases ck : k < i
      · have c1 : P.length + k < P.length + i := by omega
        have hdk : Y.drop k = Y[k] :: Y.drop (k + 1) := List.drop_eq_getElem_cons (by omega)
        have hL : P ++ ((Y.take k ++ x :: Y.drop k) ++ S) = (P ++ Y.take k) ++ x :: Y[k] :: (Y.drop (k + 1) ++ S) := by rw [hdk]; simp only [List.append_assoc, List.cons_append, List.nil_append]
        have hL2 : P ++ ((Y.take (k + 1) ++ x :: Y.drop (k + 1)) ++ S) = (P ++ Y.take k) ++ Y[k] :: x :: (Y.drop (k + 1) ++ S) := by rw [List.take_succ_eq_append_getElem (by omega)]; simp only [List.append_assoc, List.cons_append, List.nil_append]
        have hAl : (P ++ Y.take k).length = P.length + k := by rw [List.length_append, List.length_take]; omega
        have hln : (P ++ ((Y.take k ++ x :: Y.drop k) ++ S)).length = n := by rw [hlen]; simp only [List.length_append, List.length_cons, List.length_take, List.length_drop]; omega
        rw [hL] at hln ⊢
        obtain ⟨M, hM⟩ : ∃ M, M = (P ++ Y.take k) ++ x :: Y[k] :: (Y.drop (k + 1) ++ S) := ⟨_, rfl⟩
        obtain ⟨t1, t2⟩ := get_two (P ++ Y.take k) (Y.drop (k + 1) ++ S) x Y[k]
        have hst := set_two (P ++ Y.take k) (Y.drop (k + 1) ++ S) x Y[k]
        rw [hAl] at t1 t2 hst
        rw [← hM] at t1 t2 hst hln ⊢
        have g1 : (cellsT M js)[P.length + k]? = some (.str x) := by
          rw [cellsT_get (by omega)]
          rw [List.getElem?_eq_getElem (by omega)] at t1
          rw [Option.some.inj t1]
        have g2 : (cellsT M js)[P.length + k + 1]? = some (.str Y[k]) := by
          rw [cellsT_get (by omega)]
          rw [List.getElem?_eq_getElem (by omega)] at t2
          rw [Option.some.inj t2]
        have w3 : IntKind.i64.wrap (((P.length + k : Nat) : Int) + 1) = ((P.length + k + 1 : Nat) : Int) := wrap64_succ (by simp only [big]; omega)
        have p1 : ((P.length + k : Nat) : Int) < (n : Int) := by omega
        have p2 : ((P.length + k + 1 : Nat) : Int) < (n : Int) := by omega
        have s1 := cellsT_set (l := M) (j := P.length + k) (by omega) js Y[k]
        have s2 := cellsT_set (l := M.set (P.length + k) Y[k]) (j := P.length + k + 1) (by rw [List.length_set]; omega) js x
        rw [hst, ← hL2] at s2
        have hcl1 : P.length + k + 1 ≤ (cellsT M js).length := by rw [cellsT_len]; omega
        have hcl2 : P.length + k + 1 + 1 ≤ (cellsT (M.set (P.length + k) Y[k]) js).length := by rw [cellsT_len, List.length_set]; omega
        simp -dsimp only [h13, h10, h0, w2, w3, c1, ↓preB, postB, genB, ↓reduceIte, Nat.reduceEqDiff, Int.reduceToNat, Int.reduceLE, Int.reduceLT, Nat.reduceAdd, Nat.reduceLeDiff, intBin, strBin, unD, extractD, lit1, lit2, lit3, keptD, boxR, D.one, D.pub1, D.cells, splice, cutOwn]
        refine draw_p _ rfl rfl rfl rfl ?_
        simp only [List.filterMap_cons, List.filterMap_nil, List.getElem?_cons_succ, List.getElem?_cons_zero, pOps, keepKind, hfKind, Bool.or_false, Bool.or_true, Bool.false_eq_true, if_true, if_false]
        simp -dsimp only [h13, h10, h0, w2, w3, c1, g1, g2, p1, p2, s1, s2, hcl1, hcl2, ↓preB, postB, genB, ↓reduceIte, Nat.reduceEqDiff, Int.reduceToNat, Int.reduceLE, Int.reduceLT, Nat.reduceAdd, Nat.reduceLeDiff, intBin, strBin, unD, extractD, lit1, lit2, lit3, keptD, boxR, D.one, D.pub1, D.cells, splice, cutOwn]
        exact ⟨k + 1, ⟨⟨by omega, rfl⟩, by rw [Nat.add_assoc]⟩, by omega⟩
      · have hki : k = i := by omega
        subst hki
        simp -dsimp only [h13, h10, h0, w2, Nat.lt_irrefl, ↓preB, postB, genB, ↓reduceIte, Nat.reduceEqDiff, Int.reduceToNat, Int.reduceLE, Int.reduceLT, Nat.reduceAdd, Nat.reduceLeDiff, intBin, strBin, unD, extractD, lit1, lit2, lit3, keptD, boxR, D.one, D.pub1, D.cells, splice, cutOwn]
        exact Ret.now (Nat.le_refl _) ⟨rfl, _, hins.2, hins.1, rfl⟩
theorem merge2_p (tr : ∀ {a b c : ByteArray}, T a b → T b c → T a c) (P X S : List ByteArray) (y : ByteArray) (hx : 1 < X.length) (hX : X.Pairwise T) (hXY : ∀ x ∈ X, Fst cf T x y) (js : List D) (r : Nat) (c : Option Nat) (g : FuncId) (caps : List D) {n : Nat} (hn : n = (P ++ (X ++ y :: S)).length) {σ : Heap} (hr : σ.get r = some (.cells 9 (cellsT (P ++ (X ++ y :: S)) js))) (hl : n ≤ 100000)
    (hc : CmpAt g caps cf σ r js (P ++ (X ++ y :: S))) :
    PCall Zs 67 [.row r 0 n c 1, .int .i64 P.length, .int .i64 (P.length + X.length : Nat), .int .i64 (P.length + X.length + 1 : Nat), .func g caps] σ (fun d τ => d = .tup [] ∧ ∃ Z, Z.Perm (X ++ [y]) ∧ Z.Pairwise T ∧ τ = σ.set r (.cells 9 (cellsT (P ++ (Z ++ S)) js))) := by
  have hlen : n = P.length + X.length + 1 + S.length := by rw [hn]; simp only [List.length_append, List.length_cons]; omega
  refine pcall_of (Z := Zs) ok67 fun hcl hbl => ?_
  simp -dsimp only [L67, ↓preB, postB, genB, ↓reduceIte, Nat.reduceEqDiff, Int.reduceToNat, Int.reduceLE, Int.reduceLT, Nat.reduceAdd, Nat.reduceLeDiff, intBin, strBin, unD, extractD, lit1, lit2, lit3, keptD, boxR, D.one, D.pub1, D.cells, splice, cutOwn]
  have w1 : IntKind.i64.wrap (((P.length + X.length : Nat) : Int) - (P.length : Int)) = ((X.length : Nat) : Int) := by
    have := wsub (a := P.length + X.length) (b := P.length) (by omega) (by simp only [big]; omega)
    rw [this, show P.length + X.length - P.length = X.length by omega]
  have e1 : (((X.length : Nat) : Int) == 1) = false := by rw [beq_eq_false_iff_ne]; omega
  have w1b : IntKind.i64.wrap (((P.length + X.length + 1 : Nat) : Int) - ((P.length + X.length : Nat) : Int)) = 1 := by
    have := wsub (a := P.length + X.length + 1) (b := P.length + X.length) (by omega) (by simp only [big]; omega)
    rw [this, show P.length + X.length + 1 - (P.length + X.length) = 1 by omega]; rfl
  have e1b : ((1 : Int) == 1) = true := rfl
  simp -dsimp only [w1, w1b, e1, e1b, ↓preB, postB, genB, ↓reduceIte, Nat.reduceEqDiff, Int.reduceToNat, Int.reduceLE, Int.reduceLT, Nat.reduceAdd, Nat.reduceLeDiff, intBin, strBin, unD, extractD, lit1, lit2, lit3, keptD, boxR, D.one, D.pub1, D.cells, splice, cutOwn]
  refine pwp_loopJ 4 (fun env s => (s = σ ∧ ∃ i, i ≤ X.length ∧ (∀ h : 0 < i, ∀ h2 : i - 1 < X.length, T X[i - 1] y) ∧ (∀ h : i < X.length, T y X[i]) ∧ env 14 = .int .i64 (P.length + i : Nat)) ∧ env 0 = .row r 0 n c 1 ∧ env 2 = .int .i64 (P.length + X.length : Nat) ∧ env 4 = .func g caps)
    (fun (x' : Nat × Nat) env s => (s = σ ∧ x'.1 ≤ x'.2 ∧ x'.2 ≤ X.length ∧ (∀ h : 0 < x'.1, ∀ h2 : x'.1 - 1 < X.length, T X[x'.1 - 1] y) ∧ (∀ h : x'.2 < X.length, T y X[x'.2])) ∧ env 14 = .int .i64 (P.length + x'.1 : Nat) ∧ env 15 = .int .i64 (P.length + x'.2 : Nat) ∧ env 0 = .row r 0 n c 1 ∧ env 2 = .int .i64 (P.length + X.length : Nat) ∧ env 4 = .func g caps) (fun x' => x'.2 - x'.1) (0, X.length) ?_ ?_ ?_
  · simp only [upd_apply, envOf_apply, Nat.reduceEqDiff, if_true, if_false]
    exact ⟨⟨trivial, Nat.zero_le _, Nat.le_refl _, fun h => absurd h (Nat.lt_irrefl _), fun h => absurd h (Nat.lt_irrefl _)⟩, by simp [envOf]⟩
  · rintro ⟨i, j⟩ env s ⟨⟨rfl, hij, hj, q1, q2⟩, h14, h15, h0, h2, h4⟩
    simp only at hij hj q1 q2 h14 h15 ⊢
    by_cases ci : i < j
    · have c1 : P.length + i < P.length + j := by omega
      simp -dsimp only [h14, h15, h0, h2, h4, c1, exitR_exit, exitR_ret, ↓preB, postB, genB, ↓reduceIte, Nat.reduceEqDiff, Int.reduceToNat, Int.reduceLE, Int.reduceLT, Nat.reduceAdd, Nat.reduceLeDiff, intBin, strBin, unD, extractD, lit1, lit2, lit3, keptD, boxR, D.one, D.pub1, D.cells, splice, cutOwn]
      have w2 := mid_w (a := P.length + i) (b := P.length + j) (by omega)
      obtain ⟨q, hq⟩ : ∃ q, q = (i + j) / 2 := ⟨_, rfl⟩
      rw [show (P.length + i + (P.length + j)) / 2 = P.length + q by omega] at w2
      have hqX : q < X.length := by omega
      have g1 := cellsT_mid (P := P) (X := X) (S := y :: S) (q := q) hqX js
      have g2 := cellsT_mid (P := P ++ X) (X := [y]) (S := S) (q := 0) (by simp) js
      simp only [List.getElem_cons_zero, List.cons_append, List.nil_append, List.append_assoc, List.length_append, Nat.add_zero] at g1 g2
      have p1 : ((P.length + q : Nat) : Int) < (n : Int) := by omega
      have p2 : ((P.length + X.length : Nat) : Int) < (n : Int) := by omega
      have hcall := hc _ (.refl _) y (by simp) X[q] (by simp)
      rw [Heap.set_selfR hr] at hcall
      refine draw_p _ rfl rfl rfl rfl ?_
      simp only [List.filterMap_cons, List.filterMap_nil, List.getElem?_cons_succ, List.getElem?_cons_zero, pOps, keepKind, hfKind, Bool.or_false, Bool.or_true, Bool.false_eq_true, if_true, if_false]
      simp -dsimp only [h14, h15, h0, h2, h4, w2, g1, g2, p1, p2, hr, exitR_exit, exitR_ret, ↓preB, postB, genB, ↓reduceIte, Nat.reduceEqDiff, Int.reduceToNat, Int.reduceLE, Int.reduceLT, Nat.reduceAdd, Nat.reduceLeDiff, intBin, strBin, unD, extractD, lit1, lit2, lit3, keptD, boxR, D.one, D.pub1, D.cells, splice, cutOwn]
      refine PCall.use hcall ?_
      rintro _ _ ⟨rfl, rfl⟩
      have hF := hXY X[q] (List.getElem_mem hqX)
      by_cases cc : cf y X[q] < 0
      · simp -dsimp only [h14, h15, h0, h2, h4, w2, cc, exitR_exit, exitR_ret, ↓preB, postB, genB, ↓reduceIte, Nat.reduceEqDiff, Int.reduceToNat, Int.reduceLE, Int.reduceLT, Nat.reduceAdd, Nat.reduceLeDiff, intBin, strBin, unD, extractD, lit1, lit2, lit3, keptD, boxR, D.one, D.pub1, D.cells, splice, cutOwn]
        exact ⟨(i, q), ⟨⟨by simp only []; omega, by simp only []; omega, q1, fun h => (by simpa using hF.1 cc)⟩, by simp⟩, by simp only []; omega⟩
      · have w3 : IntKind.i64.wrap (((P.length + q : Nat) : Int) + 1) = ((P.length + (q + 1) : Nat) : Int) := wrap64_succ (by simp only [big]; omega)
        simp -dsimp only [h14, h15, h0, h2, h4, w2, w3, cc, exitR_exit, exitR_ret, ↓preB, postB, genB, ↓reduceIte, Nat.reduceEqDiff, Int.reduceToNat, Int.reduceLE, Int.reduceLT, Nat.reduceAdd, Nat.reduceLeDiff, intBin, strBin, unD, extractD, lit1, lit2, lit3, keptD, boxR, D.one, D.pub1, D.cells, splice, cutOwn]
        exact ⟨(q + 1, j), ⟨⟨by simp only []; omega, hj, fun h h2 => (by simpa using hF.2 (by omega)), q2⟩, by simp⟩, by simp only []; omega⟩
    · have hije : i = j := by omega
      subst hije
      simp -dsimp only [h14, h15, h0, h2, h4, Nat.lt_irrefl, exitR_exit, exitR_ret, ↓preB, postB, genB, ↓reduceIte, Nat.reduceEqDiff, Int.reduceToNat, Int.reduceLE, Int.reduceLT, Nat.reduceAdd, Nat.reduceLeDiff, intBin, strBin, unD, extractD, lit1, lit2, lit3, keptD, boxR, D.one, D.pub1, D.cells, splice, cutOwn]
      exact ⟨i, hj, q1, q2, rfl⟩
  · rintro env s ⟨⟨rfl, i, hi, q1, q2, h14⟩, h0, h2, h4⟩
    have hins := insert_one (T := T) tr hX y hi (fun h => q1 h (by omega)) q2
    simp -dsimp only [h14, h0, h2, h4, ↓preB, postB, genB, ↓reduceIte, Nat.reduceEqDiff, Int.reduceToNat, Int.reduceLE, Int.reduceLT, Nat.reduceAdd, Nat.reduceLeDiff, intBin, strBin, unD, extractD, lit1, lit2, lit3, keptD, boxR, D.one, D.pub1, D.cells, splice, cutOwn]
    refine pwp_loopG (fun (k : Nat) env s' => (i ≤ k ∧ k ≤ X.length ∧ s' = s.set r (.cells 9 (cellsT (P ++ ((X.take k ++ y :: X.drop k) ++ S)) js))) ∧ env 17 = .int .i64 (P.length + k : Nat) ∧ env 14 = .int .i64 (P.length + i : Nat) ∧ env 0 = .row r 0 n c 1) (fun k => k) X.length ?_ ?_
    · simp only [upd_apply, h14, h0, h2, h4, Nat.reduceEqDiff, if_true, if_false, Nat.add_zero]
      exact ⟨⟨hi, Nat.le_refl _, by rw [List.take_length, List.drop_length, List.append_assoc, List.cons_append, List.nil_append, Heap.set_selfR hr]⟩, trivial, trivial, trivial⟩
    · rintro k env s' ⟨⟨hk, hkX, rfl⟩, h17, h14, h0⟩
      by_cases ck : i < k
      · have c1 : P.length + i < P.length + k := by omega
        obtain ⟨k, rfl⟩ : ∃ m, k = m + 1 := ⟨k - 1, by omega⟩
        have hdk : X.drop k = X[k] :: X.drop (k + 1) := List.drop_eq_getElem_cons (by omega)
        have hL : P ++ ((X.take (k + 1) ++ y :: X.drop (k + 1)) ++ S) = (P ++ X.take k) ++ X[k] :: y :: (X.drop (k + 1) ++ S) := by rw [List.take_succ_eq_append_getElem (by omega)]; simp only [List.append_assoc, List.cons_append, List.nil_append]
        have hL2 : P ++ ((X.take k ++ y :: X.drop k) ++ S) = (P ++ X.take k) ++ y :: X[k] :: (X.drop (k + 1) ++ S) := by rw [hdk]; simp only [List.append_assoc, List.cons_append, List.nil_append]
        have hAl : (P ++ X.take k).length = P.length + k := by rw [List.length_append, List.length_take]; omega
        have hln : (P ++ ((X.take (k + 1) ++ y :: X.drop (k + 1)) ++ S)).length = n := by rw [hlen]; simp only [List.length_append, List.length_cons, List.length_take, List.length_drop]; omega
        rw [hL] at hln ⊢
        obtain ⟨M, hM⟩ : ∃ M, M = (P ++ X.take k) ++ X[k] :: y :: (X.drop (k + 1) ++ S) := ⟨_, rfl⟩
        obtain ⟨t1, t2⟩ := get_two (P ++ X.take k) (X.drop (k + 1) ++ S) X[k] y
        have hst := set_two' (P ++ X.take k) (X.drop (k + 1) ++ S) X[k] y
        rw [hAl] at t1 t2 hst
        rw [← hM] at t1 t2 hst hln ⊢
        have g1 : (cellsT M js)[P.length + k]? = some (.str X[k]) := by
          rw [cellsT_get (by omega)]
          rw [List.getElem?_eq_getElem (by omega)] at t1
          rw [Option.some.inj t1]
        have g2 : (cellsT M js)[P.length + (k + 1)]? = some (.str y) := by
          rw [cellsT_get (by omega)]
          rw [show P.length + k + 1 = P.length + (k + 1) by omega, List.getElem?_eq_getElem (by omega)] at t2
          rw [Option.some.inj t2]
        have w3 : IntKind.i64.wrap (((P.length + (k + 1) : Nat) : Int) - 1) = ((P.length + k : Nat) : Int) := by
          have := wsub (a := P.length + (k + 1)) (b := 1) (by omega) (by simp only [big]; omega)
          rw [show P.length + (k + 1) - 1 = P.length + k by omega] at this
          exact this
        have p1 : ((P.length + k : Nat) : Int) < (n : Int) := by omega
        have p2 : ((P.length + (k + 1) : Nat) : Int) < (n : Int) := by omega
        have s1 := cellsT_set (l := M) (j := P.length + (k + 1)) (by omega) js X[k]
        have s2 := cellsT_set (l := M.set (P.length + (k + 1)) X[k]) (j := P.length + k) (by rw [List.length_set]; omega) js y
        rw [show P.length + k + 1 = P.length + (k + 1) by omega] at hst
        rw [hst, ← hL2] at s2
        have hcl1 : P.length + (k + 1) + 1 ≤ (cellsT M js).length := by rw [cellsT_len]; omega
        have hcl2 : P.length + k + 1 ≤ (cellsT (M.set (P.length + (k + 1)) X[k]) js).length := by rw [cellsT_len, List.length_set]; omega
        simp -dsimp only [h17, h14, h0, w3, c1, ↓preB, postB, genB, ↓reduceIte, Nat.reduceEqDiff, Int.reduceToNat, Int.reduceLE, Int.reduceLT, Nat.reduceAdd, Nat.reduceLeDiff, intBin, strBin, unD, extractD, lit1, lit2, lit3, keptD, boxR, D.one, D.pub1, D.cells, splice, cutOwn]
        refine draw_p _ rfl rfl rfl rfl ?_
        simp only [List.filterMap_cons, List.filterMap_nil, List.getElem?_cons_succ, List.getElem?_cons_zero, pOps, keepKind, hfKind, Bool.or_false, Bool.or_true, Bool.false_eq_true, if_true, if_false]
        simp -dsimp only [h17, h14, h0, w3, c1, g1, g2, p1, p2, s1, s2, hcl1, hcl2, ↓preB, postB, genB, ↓reduceIte, Nat.reduceEqDiff, Int.reduceToNat, Int.reduceLE, Int.reduceLT, Nat.reduceAdd, Nat.reduceLeDiff, intBin, strBin, unD, extractD, lit1, lit2, lit3, keptD, boxR, D.one, D.pub1, D.cells, splice, cutOwn]
        exact ⟨k, ⟨⟨by omega, by omega, rfl⟩, rfl⟩, by omega⟩
      · have hki : k = i := by omega
        subst hki
        simp -dsimp only [h17, h14, h0, Nat.lt_irrefl, ↓preB, postB, genB, ↓reduceIte, Nat.reduceEqDiff, Int.reduceToNat, Int.reduceLE, Int.reduceLT, Nat.reduceAdd, Nat.reduceLeDiff, intBin, strBin, unD, extractD, lit1, lit2, lit3, keptD, boxR, D.one, D.pub1, D.cells, splice, cutOwn]
        exact Ret.now (Nat.le_refl _) ⟨rfl, _, hins.2.trans (List.perm_append_singleton _ _).symm, hins.1, rfl⟩
end
end Go.Proofs.Ythchlpikcpidaaa.Vs

/- numbers of Ythchlpikcpidaaa -/
namespace Go.Proofs.Ythchlpikcpidaaa.Vs
set_option linter.unusedVariables false
set_option linter.unusedSimpArgs false
set_option maxRecDepth 100000
section
variable {T : ByteArray → ByteArray → Prop} {cf : ByteArray → ByteArray → Int}
theorem share3 {Z : Sys} {a : LCode} {Q : Ex → Env → Heap → Prop} {G : Prop} (R : Env → Heap → Prop) (key : ∀ env s, R env s → kLoop Z a Q env s ⟨⟩) (main : (∀ env s, R env s → kLoop Z a Q env s ⟨⟩) → G) : G := main key
def MergeOK (cf : ByteArray → ByteArray → Int) (T : ByteArray → ByteArray → Prop) (sz : Nat) : Prop := ∀ (P X Y S : List ByteArray) (hsz : X.length + Y.length ≤ sz) (hx : 0 < X.length) (hy : 0 < Y.length) (hX : X.Pairwise T) (hY : Y.Pairwise T) (hXY : ∀ x ∈ X, ∀ y ∈ Y, Fst cf T x y) (js : List D) (r : Nat) (c : Option Nat) (g : FuncId) (caps : List D) {n : Nat} (hn : n = (P ++ (X ++ (Y ++ S))).length) {σ : Heap} (hr : σ.get r = some (.cells 9 (cellsT (P ++ (X ++ (Y ++ S))) js))) (hl : n ≤ 100000)
    (hc : CmpAt g caps cf σ r js (P ++ (X ++ (Y ++ S)))),
    PCall Zs 67 [.row r 0 n c 1, .int .i64 P.length, .int .i64 (P.length + X.length : Nat), .int .i64 (P.length + X.length + Y.length : Nat), .func g caps] σ (fun d τ => d = .tup [] ∧ ∃ Z, Z.Perm (X ++ Y) ∧ Z.Pairwise T ∧ τ = σ.set r (.cells 9 (cellsT (P ++ (Z ++ S)) js)))
theorem merge_step (tr : ∀ {a b c : ByteArray}, T a b → T b c → T a c) {sz : Nat} (ih : MergeOK cf T sz) (P X Y S : List ByteArray) (hsz : X.length + Y.length ≤ sz + 1) (hx : 0 < X.length) (hy : 0 < Y.length) (x1 : ¬ X.length = 1) (y1 : ¬ Y.length = 1) (hX : X.Pairwise T) (hY : Y.Pairwise T) (hXY : ∀ x ∈ X, ∀ y ∈ Y, Fst cf T x y) (js : List D) (r : Nat) (c : Option Nat) (g : FuncId) (caps : List D) {n : Nat} (hn : n = (P ++ (X ++ (Y ++ S))).length) {σ : Heap} (hr : σ.get r = some (.cells 9 (cellsT (P ++ (X ++ (Y ++ S))) js))) (hl : n ≤ 100000)
    (hc : CmpAt g caps cf σ r js (P ++ (X ++ (Y ++ S)))) :
    PCall Zs 67 [.row r 0 n c 1, .int .i64 P.length, .int .i64 (P.length + X.length : Nat), .int .i64 (P.length + X.length + Y.length : Nat), .func g caps] σ (fun d τ => d = .tup [] ∧ ∃ Z, Z.Perm (X ++ Y) ∧ Z.Pairwise T ∧ τ = σ.set r (.cells 9 (cellsT (P ++ (Z ++ S)) js))) := by
  have hlen : n = P.length + X.length + Y.length + S.length := by rw [hn]; simp only [List.length_append]; omega
  refine pcall_of (Z := Zs) ok67 fun hcl hbl => ?_
  simp -dsimp only [L67, ↓preB, postB, genB, ↓reduceIte, Nat.reduceEqDiff, Int.reduceToNat, Int.reduceLE, Int.reduceLT, Nat.reduceAdd, Nat.reduceLeDiff, intBin, strBin, unD, extractD, lit1, lit2, lit3, keptD, boxR, D.one, D.pub1, D.cells, splice, cutOwn]
  have w1 : IntKind.i64.wrap (((P.length + X.length : Nat) : Int) - (P.length : Int)) = ((X.length : Nat) : Int) := by
    have := wsub (a := P.length + X.length) (b := P.length) (by omega) (by simp only [big]; omega)
    rw [this, show P.length + X.length - P.length = X.length by omega]
  have e1 : (((X.length : Nat) : Int) == 1) = false := by rw [beq_eq_false_iff_ne]; omega
  have w1b : IntKind.i64.wrap (((P.length + X.length + Y.length : Nat) : Int) - ((P.length + X.length : Nat) : Int)) = ((Y.length : Nat) : Int) := by
    have := wsub (a := P.length + X.length + Y.length) (b := P.length + X.length) (by omega) (by simp only [big]; omega)
    rw [this, show P.length + X.length + Y.length - (P.length + X.length) = Y.length by omega]
  have e1b : (((Y.length : Nat) : Int) == 1) = false := by rw [beq_eq_false_iff_ne]; omega
  obtain ⟨e, he⟩ : ∃ e, e = (X.length + Y.length) / 2 := ⟨_, rfl⟩
  have w2 := mid_w (a := P.length) (b := P.length + X.length + Y.length) (by omega)
  rw [show (P.length + (P.length + X.length + Y.length)) / 2 = P.length + e by omega] at w2
  have w3 := wadd (a := P.length + e) (b := P.length + X.length) (by simp only [big]; omega)
  have w4 : IntKind.i64.wrap (((P.length + e + (P.length + X.length) : Nat) : Int) - 1) = ((P.length + X.length + (P.length + e - 1) : Nat) : Int) := by
    have := wsub (a := P.length + e + (P.length + X.length)) (b := 1) (by omega) (by simp only [big]; omega)
    rw [show P.length + e + (P.length + X.length) - 1 = P.length + X.length + (P.length + e - 1) by omega] at this
    exact this
  apply share3 (R := fun env s => ∃ lo hi, env 20 = .int .i64 (P.length + lo : Nat) ∧ env 21 = .int .i64 (P.length + hi : Nat) ∧ lo ≤ hi ∧ e ≤ Y.length + lo ∧ (lo = 0 ∨ lo + Y.length = e) ∧ hi ≤ X.length ∧ hi ≤ e ∧ (hi = X.length ∨ hi = e) ∧ s = σ ∧ env 22 = .int .i64 (P.length + X.length + (P.length + e - 1) : Nat) ∧ env 19 = .int .i64 (P.length + e + (P.length + X.length) : Nat) ∧ env 18 = .int .i64 (P.length + e : Nat) ∧ env 0 = .row r 0 n c 1 ∧ env 1 = .int .i64 P.length ∧ env 2 = .int .i64 (P.length + X.length : Nat) ∧ env 3 = .int .i64 (P.length + X.length + Y.length : Nat) ∧ env 4 = .func g caps)
  case main =>
    intro key
    by_cases c1 : P.length + e < P.length + X.length
    · have w5 : IntKind.i64.wrap (((P.length + e + (P.length + X.length) : Nat) : Int) - ((P.length + X.length + Y.length : Nat) : Int)) = ((P.length + (e - Y.length) : Nat) : Int) := by
        have := wsub (a := P.length + e + (P.length + X.length)) (b := P.length + X.length + Y.length) (by omega) (by simp only [big]; omega)
        rw [this, show P.length + e + (P.length + X.length) - (P.length + X.length + Y.length) = P.length + (e - Y.length) by omega]
      simp -dsimp only [w1, w1b, e1, e1b, w2, w3, w4, w5, c1, ↓preB, postB, genB, ↓reduceIte, Nat.reduceEqDiff, Int.reduceToNat, Int.reduceLE, Int.reduceLT, Nat.reduceAdd, Nat.reduceLeDiff, intBin, strBin, unD, extractD, lit1, lit2, lit3, keptD, boxR, D.one, D.pub1, D.cells, splice, cutOwn]
      refine key _ _ ⟨e - Y.length, e, ?_⟩
      simp only [w2, w3, w4, w5, upd_apply, envOf_apply, Nat.reduceEqDiff, if_true, if_false]
      exact ⟨(by first | trivial | rfl | omega), (by first | trivial | rfl | omega), by omega, by omega, .inr (by omega), by omega, by omega, .inr (by first | trivial | rfl | omega), (by first | trivial | rfl | omega), (by first | trivial | rfl | omega), (by first | trivial | rfl | omega), (by first | trivial | rfl | omega), (by first | trivial | rfl | omega), (by first | trivial | rfl | omega), (by first | trivial | rfl | omega), (by first | trivial | rfl | omega), (by first | trivial | rfl | omega)⟩
    · simp -dsimp only [w1, w1b, e1, e1b, w2, w3, w4, c1, ↓preB, postB, genB, ↓reduceIte, Nat.reduceEqDiff, Int.reduceToNat, Int.reduceLE, Int.reduceLT, Nat.reduceAdd, Nat.reduceLeDiff, intBin, strBin, unD, extractD, lit1, lit2, lit3, keptD, boxR, D.one, D.pub1, D.cells, splice, cutOwn]
      refine key _ _ ⟨0, X.length, ?_⟩
      simp only [w2, w3, w4, upd_apply, envOf_apply, Nat.reduceEqDiff, if_true, if_false]
      exact ⟨(by first | trivial | rfl | omega), (by first | trivial | rfl | omega), by omega, by omega, .inl (by first | trivial | rfl | omega), by omega, by omega, .inl (by first | trivial | rfl | omega), (by first | trivial | rfl | omega), (by first | trivial | rfl | omega), (by first | trivial | rfl | omega), (by first | trivial | rfl | omega), (by first | trivial | rfl | omega), (by first | trivial | rfl | omega), (by first | trivial | rfl | omega), (by first | trivial | rfl | omega), (by first | trivial | rfl | omega)⟩
  case key =>
    rintro env s ⟨lo, hi, h20, h21, b1, b2, b3, b4, b5, b6, rfl, h22, h19, h18, h0, h1, h2, h3, h4⟩
    clear w1 e1 w1b e1b w2 w3 w4
    refine pwp_loopJ 8 (fun env s' => (s' = s ∧ ∃ i j, i + j = e ∧ i ≤ X.length ∧ j ≤ Y.length ∧ (∀ x ∈ X.take i, ∀ y ∈ Y.drop j, T x y) ∧ (∀ y ∈ Y.take j, ∀ x ∈ X.drop i, T y x) ∧ env 20 = .int .i64 (P.length + i : Nat)) ∧ env 19 = .int .i64 (P.length + e + (P.length + X.length) : Nat) ∧ env 18 = .int .i64 (P.length + e : Nat) ∧ env 0 = .row r 0 n c 1 ∧ env 1 = .int .i64 P.length ∧ env 2 = .int .i64 (P.length + X.length : Nat) ∧ env 3 = .int .i64 (P.length + X.length + Y.length : Nat) ∧ env 4 = .func g caps) (fun (x : Nat × Nat) env s' => (s' = s ∧ lo ≤ x.1 ∧ x.1 ≤ x.2 ∧ x.2 ≤ hi ∧ (∀ (_ : lo < x.1) (h1 : x.1 - 1 < X.length) (h2 : e - x.1 < Y.length), T X[x.1 - 1] Y[e - x.1]) ∧ (∀ (_ : x.2 < hi) (h1 : e - x.2 - 1 < Y.length) (h2 : x.2 < X.length), T Y[e - x.2 - 1] X[x.2])) ∧ env 20 = .int .i64 (P.length + x.1 : Nat) ∧ env 21 = .int .i64 (P.length + x.2 : Nat) ∧ env 22 = .int .i64 (P.length + X.length + (P.length + e - 1) : Nat) ∧ env 19 = .int .i64 (P.length + e + (P.length + X.length) : Nat) ∧ env 18 = .int .i64 (P.length + e : Nat) ∧ env 0 = .row r 0 n c 1 ∧ env 1 = .int .i64 P.length ∧ env 2 = .int .i64 (P.length + X.length : Nat) ∧ env 3 = .int .i64 (P.length + X.length + Y.length : Nat) ∧ env 4 = .func g caps) (fun x => x.2 - x.1) (lo, hi) ?_ ?_ ?_
    · exact ⟨⟨rfl, Nat.le_refl _, b1, Nat.le_refl _, fun h => absurd h (Nat.lt_irrefl _), fun h => absurd h (Nat.lt_irrefl _)⟩, h20, h21, h22, h19, h18, h0, h1, h2, h3, h4⟩
    · clear h20 h21 h22 h19 h18 h0 h1 h2 h3 h4
      rintro ⟨i, j⟩ env s' ⟨⟨rfl, d1, d2, d3, q1, q2⟩, h20, h21, h22, h19, h18, h0, h1, h2, h3, h4⟩
      simp only at d1 d2 d3 q1 q2 h20 h21 ⊢
      by_cases cij : i < j
      · have c1 : P.length + i < P.length + j := by omega
        have w2 := mid_w (a := P.length + i) (b := P.length + j) (by omega)
        obtain ⟨q, hq⟩ : ∃ q, q = (i + j) / 2 := ⟨_, rfl⟩
        rw [show (P.length + i + (P.length + j)) / 2 = P.length + q by omega] at w2
        have hqX : q < X.length := by omega
        have hqY : e - q - 1 < Y.length := by omega
        have w3 : IntKind.i64.wrap (((P.length + X.length + (P.length + e - 1) : Nat) : Int) - ((P.length + q : Nat) : Int)) = ((P.length + X.length + (e - q - 1) : Nat) : Int) := by
          have := wsub (a := P.length + X.length + (P.length + e - 1)) (b := P.length + q) (by omega) (by simp only [big]; omega)
          rw [this, show P.length + X.length + (P.length + e - 1) - (P.length + q) = P.length + X.length + (e - q - 1) by omega]
        have g1 := cellsT_mid (P := P) (X := X) (S := Y ++ S) (q := q) hqX js
        have g2 := cellsT_mid (P := P ++ X) (X := Y) (S := S) (q := e - q - 1) hqY js
        simp only [List.append_assoc, List.length_append] at g2
        have p1 : ((P.length + q : Nat) : Int) < (n : Int) := by omega
        have p2 : ((P.length + X.length + (e - q - 1) : Nat) : Int) < (n : Int) := by omega
        have hcall := hc _ (.refl _) Y[e - q - 1] (by simp) X[q] (by simp)
        rw [Heap.set_selfR hr] at hcall
        simp -dsimp only [h20, h21, h22, h19, h18, h0, h1, h2, h3, h4, c1, exitR_exit, exitR_ret, ↓preB, postB, genB, ↓reduceIte, Nat.reduceEqDiff, Int.reduceToNat, Int.reduceLE, Int.reduceLT, Nat.reduceAdd, Nat.reduceLeDiff, intBin, strBin, unD, extractD, lit1, lit2, lit3, keptD, boxR, D.one, D.pub1, D.cells, splice, cutOwn]
        refine draw_p _ rfl rfl rfl rfl ?_
        simp only [List.filterMap_cons, List.filterMap_nil, List.getElem?_cons_succ, List.getElem?_cons_zero, pOps, keepKind, hfKind, Bool.or_false, Bool.or_true, Bool.false_eq_true, if_true, if_false]
        simp -dsimp only [h20, h21, h22, h19, h18, h0, h1, h2, h3, h4, w2, w3, g1, g2, p1, p2, hr, exitR_exit, exitR_ret, ↓preB, postB, genB, ↓reduceIte, Nat.reduceEqDiff, Int.reduceToNat, Int.reduceLE, Int.reduceLT, Nat.reduceAdd, Nat.reduceLeDiff, intBin, strBin, unD, extractD, lit1, lit2, lit3, keptD, boxR, D.one, D.pub1, D.cells, splice, cutOwn]
        refine PCall.use hcall ?_
        rintro _ _ ⟨rfl, rfl⟩
        have hF := hXY X[q] (List.getElem_mem hqX) Y[e - q - 1] (List.getElem_mem hqY)
        by_cases cc : cf Y[e - q - 1] X[q] < 0
        · simp -dsimp only [h20, h21, h22, h19, h18, h0, h1, h2, h3, h4, w2, cc, exitR_exit, exitR_ret, ↓preB, postB, genB, ↓reduceIte, Nat.reduceEqDiff, Int.reduceToNat, Int.reduceLE, Int.reduceLT, Nat.reduceAdd, Nat.reduceLeDiff, intBin, strBin, unD, extractD, lit1, lit2, lit3, keptD, boxR, D.one, D.pub1, D.cells, splice, cutOwn]
          exact ⟨(i, q), ⟨⟨d1, by simp only []; omega, by simp only []; omega, q1, fun _ _ _ => hF.1 cc⟩, by simp⟩, by simp only []; omega⟩
        · have w4 : IntKind.i64.wrap (((P.length + q : Nat) : Int) + 1) = ((P.length + (q + 1) : Nat) : Int) := wrap64_succ (by simp only [big]; omega)
          simp -dsimp only [h20, h21, h22, h19, h18, h0, h1, h2, h3, h4, w2, w4, cc, exitR_exit, exitR_ret, ↓preB, postB, genB, ↓reduceIte, Nat.reduceEqDiff, Int.reduceToNat, Int.reduceLE, Int.reduceLT, Nat.reduceAdd, Nat.reduceLeDiff, intBin, strBin, unD, extractD, lit1, lit2, lit3, keptD, boxR, D.one, D.pub1, D.cells, splice, cutOwn]
          refine ⟨(q + 1, j), ⟨⟨by simp only []; omega, by simp only []; omega, d3, fun _ g1 g2 => ?_, q2⟩, by simp⟩, by simp only []; omega⟩
          have := hF.2 (by omega)
          simp only [Nat.add_sub_cancel]
          exact this
      · have hije : i = j := by omega
        subst hije
        obtain ⟨j, hj⟩ : ∃ j, j = e - i := ⟨_, rfl⟩
        have hcr := cut_cross (T := T) tr hX hY (i := i) (j := j) (by omega) (by omega) (fun a b => by
          subst hj
          exact q1 (by omega) (by omega) b) (fun a b => by
          subst hj
          exact q2 (by omega) (by omega) b)
        simp -dsimp only [h20, h21, h22, h19, h18, h0, h1, h2, h3, h4, Nat.lt_irrefl, exitR_exit, exitR_ret, ↓preB, postB, genB, ↓reduceIte, Nat.reduceEqDiff, Int.reduceToNat, Int.reduceLE, Int.reduceLT, Nat.reduceAdd, Nat.reduceLeDiff, intBin, strBin, unD, extractD, lit1, lit2, lit3, keptD, boxR, D.one, D.pub1, D.cells, splice, cutOwn]
        exact ⟨i, j, by omega, by omega, by omega, hcr.1, hcr.2, rfl⟩
    · clear h20 h21 h22 h19 h18 h0 h1 h2 h3 h4
      rintro env s' ⟨⟨rfl, i, j, hij, hiX, hjY, hc1, hc2, h20⟩, h19, h18, h0, h1, h2, h3, h4⟩
      have w5 : IntKind.i64.wrap (((P.length + e + (P.length + X.length) : Nat) : Int) - ((P.length + i : Nat) : Int)) = ((P.length + X.length + j : Nat) : Int) := by
        have := wsub (a := P.length + e + (P.length + X.length)) (b := P.length + i) (by omega) (by simp only [big]; omega)
        rw [this, show P.length + e + (P.length + X.length) - (P.length + i) = P.length + X.length + j by omega]
      have hXe : X = X.take i ++ X.drop i := (List.take_append_drop ..).symm
      have hYe : Y = Y.take j ++ Y.drop j := (List.take_append_drop ..).symm
      have l1 : (X.take i).length = i := by rw [List.length_take]; omega
      have l2 : (Y.take j).length = j := by rw [List.length_take]; omega
      have l3 : (X.drop i).length = X.length - i := List.length_drop ..
      have l4 : (Y.drop j).length = Y.length - j := List.length_drop ..
      have hLe : P ++ (X ++ (Y ++ S)) = P ++ (X.take i ++ (X.drop i ++ (Y.take j ++ (Y.drop j ++ S)))) := by
        rw [← List.append_assoc (X.take i), List.take_append_drop, ← List.append_assoc (Y.take j), List.take_append_drop]
      have hpX := hX
      have hpY := hY
      rw [hXe, List.pairwise_append] at hpX
      rw [hYe, List.pairwise_append] at hpY
      have hmX : ∀ x, x ∈ X.take i ∨ x ∈ X.drop i → x ∈ X := fun x hx => by rw [hXe]; exact List.mem_append.2 hx
      have hmY : ∀ y, y ∈ Y.take j ∨ y ∈ Y.drop j → y ∈ Y := fun y hy => by rw [hYe]; exact List.mem_append.2 hy
      generalize X.take i = X1 at *
      generalize X.drop i = X2 at *
      generalize Y.take j = Y1 at *
      generalize Y.drop j = Y2 at *
      have hperm1 : (P ++ (X1 ++ (Y1 ++ (X2 ++ (Y2 ++ S))))).Perm (P ++ (X ++ (Y ++ S))) := by
        rw [hLe]
        refine ((List.Perm.append_left X1 ?_)).append_left P
        rw [← List.append_assoc Y1, ← List.append_assoc X2]
        exact (List.perm_append_comm).append_right _
      show pwp Zs (.seq _ (.seq _ _)) _ env s'
      refine pwp_join (fun env' s1 => s1 = s' ∧ env' 24 = .int .i64 (P.length + X.length + j : Nat) ∧ env' 20 = .int .i64 (P.length + i : Nat) ∧ env' 18 = .int .i64 (P.length + e : Nat) ∧ env' 0 = .row r 0 n c 1 ∧ env' 1 = .int .i64 P.length ∧ env' 2 = .int .i64 (P.length + X.length : Nat) ∧ env' 3 = .int .i64 (P.length + X.length + Y.length : Nat) ∧ env' 4 = .func g caps) ?_ ?_
      · simp -dsimp only [h20, h19, h18, h0, h1, h2, h3, h4, w5, ↓preB, postB, genB, ↓reduceIte, Nat.reduceEqDiff, Int.reduceToNat, Int.reduceLE, Int.reduceLT, Nat.reduceAdd, Nat.reduceLeDiff, intBin, strBin, unD, extractD, lit1, lit2, lit3, keptD, boxR, D.one, D.pub1, D.cells, splice, cutOwn]
      clear h20 h19 h18 h0 h1 h2 h3 h4
      rintro env s1 ⟨rfl, h24, h20, h18, h0, h1, h2, h3, h4⟩
      refine pwp_join (fun env' s2 => s2 = s1.set r (.cells 9 (cellsT (P ++ (X1 ++ (Y1 ++ (X2 ++ (Y2 ++ S))))) js)) ∧ env' 24 = .int .i64 (P.length + X.length + j : Nat) ∧ env' 20 = .int .i64 (P.length + i : Nat) ∧ env' 18 = .int .i64 (P.length + e : Nat) ∧ env' 0 = .row r 0 n c 1 ∧ env' 1 = .int .i64 P.length ∧ env' 2 = .int .i64 (P.length + X.length : Nat) ∧ env' 3 = .int .i64 (P.length + X.length + Y.length : Nat) ∧ env' 4 = .func g caps) ?_ ?_
      · by_cases a1 : P.length + i < P.length + X.length
        · by_cases a2 : P.length + X.length < P.length + X.length + j
          · have hrot := rotate_p (P ++ X1) X2 Y1 (Y2 ++ S) (by omega) (by omega) js r c (.func g caps) (n := n) (by rw [hn, hLe]; simp only [List.append_assoc]) (σ := s1) (by rw [hr, hLe]; simp only [List.append_assoc]) hl
            rw [show (P ++ X1).length = P.length + i by rw [List.length_append, l1], show P.length + i + X2.length = P.length + X.length by omega, l2] at hrot
            simp only [List.append_assoc] at hrot
            simp -dsimp only [h24, h20, h18, h0, h1, h2, h3, h4, a1, a2, gate, gTT, gTF, gFT, gFF, decide_true, decide_false, ↓preB, postB, genB, ↓reduceIte, Nat.reduceEqDiff, Int.reduceToNat, Int.reduceLE, Int.reduceLT, Nat.reduceAdd, Nat.reduceLeDiff, intBin, strBin, unD, extractD, lit1, lit2, lit3, keptD, boxR, D.one, D.pub1, D.cells, splice, cutOwn]
            refine PCall.use hrot ?_
            rintro _ _ ⟨rfl, rfl⟩
            simp -dsimp only [h24, h20, h18, h0, h1, h2, h3, h4, ↓preB, postB, genB, ↓reduceIte, Nat.reduceEqDiff, Int.reduceToNat, Int.reduceLE, Int.reduceLT, Nat.reduceAdd, Nat.reduceLeDiff, intBin, strBin, unD, extractD, lit1, lit2, lit3, keptD, boxR, D.one, D.pub1, D.cells, splice, cutOwn]
          · have : Y1 = [] := List.eq_nil_of_length_eq_zero (by omega)
            simp -dsimp only [h24, h20, h18, h0, h1, h2, h3, h4, a1, a2, gate, gTT, gTF, gFT, gFF, decide_true, decide_false, ↓preB, postB, genB, ↓reduceIte, Nat.reduceEqDiff, Int.reduceToNat, Int.reduceLE, Int.reduceLT, Nat.reduceAdd, Nat.reduceLeDiff, intBin, strBin, unD, extractD, lit1, lit2, lit3, keptD, boxR, D.one, D.pub1, D.cells, splice, cutOwn]
            subst this
            rw [hLe] at hr
            exact (Heap.set_selfR hr).symm
        · have : X2 = [] := List.eq_nil_of_length_eq_zero (by omega)
          simp -dsimp only [h24, h20, h18, h0, h1, h2, h3, h4, a1, gate, gTT, gTF, gFT, gFF, decide_true, decide_false, ↓preB, postB, genB, ↓reduceIte, Nat.reduceEqDiff, Int.reduceToNat, Int.reduceLE, Int.reduceLT, Nat.reduceAdd, Nat.reduceLeDiff, intBin, strBin, unD, extractD, lit1, lit2, lit3, keptD, boxR, D.one, D.pub1, D.cells, splice, cutOwn]
          subst this
          rw [hLe] at hr
          exact (Heap.set_selfR hr).symm
      clear h24 h20 h18 h0 h1 h2 h3 h4
      rintro env s2 ⟨rfl, h24, h20, h18, h0, h1, h2, h3, h4⟩
      refine pwp_join (fun env' s2 => (∃ Z1, Z1.Perm (X1 ++ Y1) ∧ Z1.Pairwise T ∧ s2 = s1.set r (.cells 9 (cellsT (P ++ (Z1 ++ (X2 ++ (Y2 ++ S)))) js))) ∧ env' 24 = .int .i64 (P.length + X.length + j : Nat) ∧ env' 18 = .int .i64 (P.length + e : Nat) ∧ env' 0 = .row r 0 n c 1 ∧ env' 3 = .int .i64 (P.length + X.length + Y.length : Nat) ∧ env' 4 = .func g caps) ?_ ?_
      · by_cases a1 : P.length < P.length + i
        · by_cases a2 : P.length + i < P.length + e
          · have hm := ih P X1 Y1 (X2 ++ (Y2 ++ S)) (by omega) (by omega) (by omega) hpX.1 hpY.1 (fun x hx y hy => hXY x (hmX x (.inl hx)) y (hmY y (.inl hy))) js r c g caps (n := n) (by rw [hn, ← hperm1.length_eq]) (σ := s1.set r (.cells 9 (cellsT (P ++ (X1 ++ (Y1 ++ (X2 ++ (Y2 ++ S))))) js))) (Heap.set_same _ _ _) hl ((hc.perm hperm1.symm).set _)
            rw [l1, l2, show P.length + i + j = P.length + e by omega] at hm
            simp -dsimp only [h24, h20, h18, h0, h1, h2, h3, h4, a1, a2, gate, gTT, gTF, gFT, gFF, decide_true, decide_false, ↓preB, postB, genB, ↓reduceIte, Nat.reduceEqDiff, Int.reduceToNat, Int.reduceLE, Int.reduceLT, Nat.reduceAdd, Nat.reduceLeDiff, intBin, strBin, unD, extractD, lit1, lit2, lit3, keptD, boxR, D.one, D.pub1, D.cells, splice, cutOwn]
            refine PCall.use hm ?_
            rintro _ _ ⟨rfl, Z1, p1, s1', rfl⟩
            simp -dsimp only [h24, h20, h18, h0, h1, h2, h3, h4, ↓preB, postB, genB, ↓reduceIte, Nat.reduceEqDiff, Int.reduceToNat, Int.reduceLE, Int.reduceLT, Nat.reduceAdd, Nat.reduceLeDiff, intBin, strBin, unD, extractD, lit1, lit2, lit3, keptD, boxR, D.one, D.pub1, D.cells, splice, cutOwn]
            exact ⟨Z1, p1, s1', rfl⟩
          · have : Y1 = [] := List.eq_nil_of_length_eq_zero (by omega)
            simp -dsimp only [h24, h20, h18, h0, h1, h2, h3, h4, a1, a2, gate, gTT, gTF, gFT, gFF, decide_true, decide_false, ↓preB, postB, genB, ↓reduceIte, Nat.reduceEqDiff, Int.reduceToNat, Int.reduceLE, Int.reduceLT, Nat.reduceAdd, Nat.reduceLeDiff, intBin, strBin, unD, extractD, lit1, lit2, lit3, keptD, boxR, D.one, D.pub1, D.cells, splice, cutOwn]
            subst this
            exact ⟨X1, by rw [List.append_nil], hpX.1, rfl⟩
        · have : X1 = [] := List.eq_nil_of_length_eq_zero (by omega)
          simp -dsimp only [h24, h20, h18, h0, h1, h2, h3, h4, a1, gate, gTT, gTF, gFT, gFF, decide_true, decide_false, ↓preB, postB, genB, ↓reduceIte, Nat.reduceEqDiff, Int.reduceToNat, Int.reduceLE, Int.reduceLT, Nat.reduceAdd, Nat.reduceLeDiff, intBin, strBin, unD, extractD, lit1, lit2, lit3, keptD, boxR, D.one, D.pub1, D.cells, splice, cutOwn]
          subst this
          exact ⟨Y1, by rw [List.nil_append], hpY.1, rfl⟩
      clear h24 h20 h18 h0 h1 h2 h3 h4
      rintro env s2 ⟨⟨Z1, p1, z1, rfl⟩, h24, h18, h0, h3, h4⟩
      have lZ : Z1.length = e := by rw [p1.length_eq, List.length_append]; omega
      have fin : ∀ Z2 : List ByteArray, Z2.Perm (X2 ++ Y2) → Z2.Pairwise T → (Z1 ++ Z2).Perm (X ++ Y) ∧ (Z1 ++ Z2).Pairwise T := fun Z2 p2 z2 => by
        have := merge_halves (T := T) (by rw [← hXe]; exact hX) (by rw [← hYe]; exact hY) hc1 hc2 p1 z1 p2 z2
        rw [← hXe, ← hYe] at this
        exact ⟨this.2, this.1⟩
      have hperm2 : (P ++ (Z1 ++ (X2 ++ (Y2 ++ S)))).Perm (P ++ (X ++ (Y ++ S))) := by
        refine List.Perm.trans ?_ hperm1
        rw [← List.append_assoc X1]
        exact perm_mid P _ _ _ p1
      by_cases a1 : P.length + e < P.length + X.length + j
      · by_cases a2 : P.length + X.length + j < P.length + X.length + Y.length
        · have hm := ih (P ++ Z1) X2 Y2 S (by omega) (by omega) (by omega) hpX.2.1 hpY.2.1 (fun x hx y hy => hXY x (hmX x (.inr hx)) y (hmY y (.inr hy))) js r c g caps (n := n) (by rw [hn, ← hperm2.length_eq]; simp only [List.append_assoc]) (σ := s1.set r (.cells 9 (cellsT (P ++ (Z1 ++ (X2 ++ (Y2 ++ S)))) js))) (by rw [Heap.set_same]; simp only [List.append_assoc]) hl (by
            have := (hc.perm hperm2.symm).set (.cells 9 (cellsT (P ++ (Z1 ++ (X2 ++ (Y2 ++ S)))) js))
            simpa only [List.append_assoc] using this)
          rw [show (P ++ Z1).length = P.length + e by rw [List.length_append, lZ], show P.length + e + X2.length = P.length + X.length + j by omega, show P.length + X.length + j + Y2.length = P.length + X.length + Y.length by omega] at hm
          simp -dsimp only [h24, h18, h0, h3, h4, a1, a2, gate, gTT, gTF, gFT, gFF, decide_true, decide_false, ↓preB, postB, genB, ↓reduceIte, Nat.reduceEqDiff, Int.reduceToNat, Int.reduceLE, Int.reduceLT, Nat.reduceAdd, Nat.reduceLeDiff, intBin, strBin, unD, extractD, lit1, lit2, lit3, keptD, boxR, D.one, D.pub1, D.cells, splice, cutOwn]
          refine PCall.use hm ?_
          rintro _ _ ⟨rfl, Z2, p2, z2, rfl⟩
          simp -dsimp only [h24, h18, h0, h3, h4, ↓preB, postB, genB, ↓reduceIte, Nat.reduceEqDiff, Int.reduceToNat, Int.reduceLE, Int.reduceLT, Nat.reduceAdd, Nat.reduceLeDiff, intBin, strBin, unD, extractD, lit1, lit2, lit3, keptD, boxR, D.one, D.pub1, D.cells, splice, cutOwn]
          obtain ⟨f1, f2⟩ := fin Z2 p2 z2
          exact Ret.now (Nat.le_refl _) ⟨rfl, Z1 ++ Z2, f1, f2, by simp only [List.append_assoc, Heap.set_set]⟩
        · have : Y2 = [] := List.eq_nil_of_length_eq_zero (by omega)
          simp -dsimp only [h24, h18, h0, h3, h4, a1, a2, gate, gTT, gTF, gFT, gFF, decide_true, decide_false, ↓preB, postB, genB, ↓reduceIte, Nat.reduceEqDiff, Int.reduceToNat, Int.reduceLE, Int.reduceLT, Nat.reduceAdd, Nat.reduceLeDiff, intBin, strBin, unD, extractD, lit1, lit2, lit3, keptD, boxR, D.one, D.pub1, D.cells, splice, cutOwn]
          obtain ⟨f1, f2⟩ := fin X2 (by rw [this, List.append_nil]) hpX.2.1
          exact Ret.now (Nat.le_refl _) ⟨rfl, Z1 ++ X2, f1, f2, by rw [this]; simp only [List.append_assoc, List.nil_append]⟩
      · have : X2 = [] := List.eq_nil_of_length_eq_zero (by omega)
        simp -dsimp only [h24, h18, h0, h3, h4, a1, gate, gTT, gTF, gFT, gFF, decide_true, decide_false, ↓preB, postB, genB, ↓reduceIte, Nat.reduceEqDiff, Int.reduceToNat, Int.reduceLE, Int.reduceLT, Nat.reduceAdd, Nat.reduceLeDiff, intBin, strBin, unD, extractD, lit1, lit2, lit3, keptD, boxR, D.one, D.pub1, D.cells, splice, cutOwn]
        obtain ⟨f1, f2⟩ := fin Y2 (by rw [this, List.nil_append]) hpY.2.1
        exact Ret.now (Nat.le_refl _) ⟨rfl, Z1 ++ Y2, f1, f2, by rw [this]; simp only [List.append_assoc, List.nil_append]⟩
theorem symMerge_p (tr : ∀ {a b c : ByteArray}, T a b → T b c → T a c) : ∀ sz, MergeOK cf T sz
  | 0 => fun P X Y S hsz hx hy => by omega
  | sz + 1 => fun P X Y S hsz hx hy hX hY hXY js r c g caps n hn σ hr hl hc => by
    by_cases x1 : X.length = 1
    · obtain ⟨x, rfl⟩ := List.length_eq_one_iff.1 x1
      exact merge1_p (T := T) tr P Y S x hy hY (fun y hy => hXY x (by simp) y hy) js r c g caps hn hr hl hc
    by_cases y1 : Y.length = 1
    · obtain ⟨y, rfl⟩ := List.length_eq_one_iff.1 y1
      exact merge2_p (T := T) tr P X S y (by omega) hX (fun x hx => hXY x hx y (by simp)) js r c g caps hn hr hl hc
    exact merge_step (T := T) tr (symMerge_p tr sz) P X Y S hsz hx hy x1 y1 hX hY hXY js r c g caps hn hr hl hc
end
end Go.Proofs.Ythchlpikcpidaaa.Vs

/- numbers of Ythchlpikcpidaaa -/
namespace Go.Proofs.Ythchlpikcpidaaa.Vs
set_option linter.unusedVariables false
set_option linter.unusedSimpArgs false
set_option maxRecDepth 100000
section
variable {T : ByteArray → ByteArray → Prop} {cf : ByteArray → ByteArray → Int}
theorem wmul2 {b : Nat} (h : b ≤ 1000000) : IntKind.i64.wrap (2 * (b : Int)) = ((2 * b : Nat) : Int) := by
  rw [wrap64_in (by omega) (by omega)]; omega
theorem wmul2' {b : Nat} (h : b ≤ 1000000) : IntKind.i64.wrap ((b : Int) * 2) = ((2 * b : Nat) : Int) := by
  rw [wrap64_in (by omega) (by omega)]; omega
/-- A run put in order by itself. -/
theorem good_put {o L P X Z S : List ByteArray} {s k : Nat} (hs : 0 < s) (hL : L = P ++ (X ++ S)) (hP : P.length = k * s) (hXs : X.length ≤ s) (hS : X.length = s ∨ S = []) (hZ : Z.length = X.length) (h1 : Z.Pairwise T) (h2 : Z.Perm (chunk s k o)) :
    goodC T o (P ++ (Z ++ S)) s k ∧ ∀ j, j ≠ k → chunk s j (P ++ (Z ++ S)) = chunk s j L := by
  refine ⟨?_, fun j hj => ?_⟩
  · unfold goodC
    rw [chunk_here hP (by omega) (by rw [hZ]; exact hS)]
    exact ⟨h1, h2⟩
  · rw [hL]; exact chunk_put hs hP hZ.symm hXs hS hj
theorem stable_p (tr : ∀ {a b c : ByteArray}, T a b → T b c → T a c) (o : List ByteArray) (hC : o.Pairwise (Fst cf T)) (js : List D) (r : Nat) (c : Option Nat) (g : FuncId) (caps : List D) {n : Nat} (hn : n = o.length) {σ : Heap} (hr : σ.get r = some (.cells 9 (cellsT o js))) (hl : n ≤ 100000) (hc : CmpAt g caps cf σ r js o) :
    PCall Zs 54 [.row r 0 n c 1, .int .i64 n, .func g caps] σ (fun d τ => d = .tup [] ∧ ∃ Z, Z.Perm o ∧ Z.Pairwise T ∧ τ = σ.set r (.cells 9 (cellsT Z js))) := by
  refine pcall_of (Z := Zs) ok54 fun hcl hbl => ?_
  simp -dsimp only [L54, ↓preB, postB, genB, ↓reduceIte, Nat.reduceEqDiff, Int.reduceToNat, Int.reduceLE, Int.reduceLT, Nat.reduceAdd, Nat.reduceLeDiff, intBin, strBin, unD, extractD, lit1, lit2, lit3, keptD, boxR, D.one, D.pub1, D.cells, splice, cutOwn]
  refine pwp_loopJ 0 (fun env s => (∃ L k, L.Perm o ∧ k * 20 ≤ n ∧ n < k * 20 + 20 ∧ (∀ j, j < k → goodC T o L 20 j) ∧ (∀ j, k ≤ j → chunk 20 j L = chunk 20 j o) ∧ s = σ.set r (.cells 9 (cellsT L js)) ∧ env 7 = .int .i64 (k * 20 : Nat)) ∧ env 6 = .int .i64 20 ∧ env 0 = .row r 0 n c 1 ∧ env 1 = .int .i64 n ∧ env 2 = .func g caps)
    (fun (x : Nat × List ByteArray) env s => (x.2.Perm o ∧ x.1 * 20 ≤ n ∧ (∀ j, j < x.1 → goodC T o x.2 20 j) ∧ (∀ j, x.1 ≤ j → chunk 20 j x.2 = chunk 20 j o) ∧ s = σ.set r (.cells 9 (cellsT x.2 js))) ∧ env 7 = .int .i64 (x.1 * 20 : Nat) ∧ env 8 = .int .i64 (x.1 * 20 + 20 : Nat) ∧ env 6 = .int .i64 20 ∧ env 0 = .row r 0 n c 1 ∧ env 1 = .int .i64 n ∧ env 2 = .func g caps) (fun x => n - x.1) (0, o) ?_ ?_ ?_
  · simp only [upd_apply, envOf_apply, Nat.reduceEqDiff, if_true, if_false]
    exact ⟨⟨.refl _, by omega, fun j hj => absurd hj (Nat.not_lt_zero _), fun _ _ => trivial, (Heap.set_selfR hr).symm⟩, by simp [envOf]⟩
  · rintro ⟨k, L⟩ env s ⟨⟨hp, hk, hg, hch, rfl⟩, h7, h8, h6, h0, h1, h2⟩
    simp only at hp hk hg hch h7 h8 ⊢
    have hLn : L.length = n := by rw [hp.length_eq, hn]
    by_cases c1 : k * 20 + 20 ≤ n
    · obtain ⟨P, S, hL, hP, hX1, hX2, hX3⟩ := chunk_parts 20 k L (by omega)
      have hX : (chunk 20 k L).length = 20 := by omega
      have hin := insert_p (T := T) (cf := cf) tr P (chunk 20 k L) S (by rw [hch k (Nat.le_refl _)]; exact chunk_sub hC 20 k) js r c g caps (n := n) (by rw [← hL, hLn]) (σ := σ.set r (.cells 9 (cellsT L js))) (by rw [← hL]; exact Heap.set_same _ _ _) hl (by rw [← hL]; exact (hc.perm hp.symm).set _)
      rw [hP, hX] at hin
      have w1 : IntKind.i64.wrap (((k * 20 + 20 : Nat) : Int) + 20) = (((k + 1) * 20 + 20 : Nat) : Int) := by
        have := wadd (a := k * 20 + 20) (b := 20) (by simp only [big]; omega)
        rw [show (k + 1) * 20 + 20 = k * 20 + 20 + 20 by omega]; exact this
      have c1' : ((k * 20 + 20 : Nat) : Int) ≤ (n : Int) := by omega
      simp -dsimp only [h7, h8, h6, h0, h1, h2, c1', exitR_exit, exitR_ret, ↓preB, postB, genB, ↓reduceIte, Nat.reduceEqDiff, Int.reduceToNat, Int.reduceLE, Int.reduceLT, Nat.reduceAdd, Nat.reduceLeDiff, intBin, strBin, unD, extractD, lit1, lit2, lit3, keptD, boxR, D.one, D.pub1, D.cells, splice, cutOwn]
      refine PCall.use hin ?_
      rintro _ _ ⟨rfl, Z, p1, z1, rfl⟩
      simp -dsimp only [h7, h8, h6, h0, h1, h2, w1, exitR_exit, exitR_ret, ↓preB, postB, genB, ↓reduceIte, Nat.reduceEqDiff, Int.reduceToNat, Int.reduceLE, Int.reduceLT, Nat.reduceAdd, Nat.reduceLeDiff, intBin, strBin, unD, extractD, lit1, lit2, lit3, keptD, boxR, D.one, D.pub1, D.cells, splice, cutOwn]
      obtain ⟨q1, q2⟩ := good_put (T := T) (o := o) (L := L) (Z := Z) (by decide) hL hP hX1 hX2 p1.length_eq z1 (p1.trans (by rw [hch k (Nat.le_refl _)]))
      refine ⟨(k + 1, P ++ (Z ++ S)), ⟨⟨?_, by simp only []; omega, fun j hj => ?_, fun j hj => ?_, rfl⟩, ?_⟩, by simp only []; omega⟩
      · refine List.Perm.trans ?_ hp
        conv => rhs; rw [hL]
        exact perm_mid P _ _ _ p1
      · by_cases hjk : j = k
        · subst hjk; exact q1
        · have := hg j (by simp only at hj; omega)
          unfold goodC at this ⊢
          rw [q2 j hjk]; exact this
      · rw [q2 j (by simp only at hj; omega)]; exact hch j (by simp only at hj; omega)
      · simp only [and_true, true_and]
        rw [show (k + 1) * 20 = k * 20 + 20 by omega]
    · have c1' : ¬ ((k * 20 + 20 : Nat) : Int) ≤ (n : Int) := by omega
      simp -dsimp only [h7, h8, h6, h0, h1, h2, c1', exitR_exit, exitR_ret, ↓preB, postB, genB, ↓reduceIte, Nat.reduceEqDiff, Int.reduceToNat, Int.reduceLE, Int.reduceLT, Nat.reduceAdd, Nat.reduceLeDiff, intBin, strBin, unD, extractD, lit1, lit2, lit3, keptD, boxR, D.one, D.pub1, D.cells, splice, cutOwn]
      exact ⟨L, k, hp, hk, by omega, hg, hch, rfl, rfl⟩
  · rintro env s ⟨⟨L, k, hp, hk, hk2, hg, hch, rfl, h7⟩, h6, h0, h1, h2⟩
    have hLn : L.length = n := by rw [hp.length_eq, hn]
    obtain ⟨P, S, hL, hP, hX1, hX2, hX3⟩ := chunk_parts 20 k L (by omega)
    have hX : (chunk 20 k L).length = n - k * 20 := by omega
    have hin := insert_p (T := T) (cf := cf) tr P (chunk 20 k L) S (by rw [hch k (Nat.le_refl _)]; exact chunk_sub hC 20 k) js r c g caps (n := n) (by rw [← hL, hLn]) (σ := σ.set r (.cells 9 (cellsT L js))) (by rw [← hL]; exact Heap.set_same _ _ _) hl (by rw [← hL]; exact (hc.perm hp.symm).set _)
    rw [hP, hX, show k * 20 + (n - k * 20) = n by omega] at hin
    simp -dsimp only [h7, h6, h0, h1, h2, ↓preB, postB, genB, ↓reduceIte, Nat.reduceEqDiff, Int.reduceToNat, Int.reduceLE, Int.reduceLT, Nat.reduceAdd, Nat.reduceLeDiff, intBin, strBin, unD, extractD, lit1, lit2, lit3, keptD, boxR, D.one, D.pub1, D.cells, splice, cutOwn]
    refine PCall.use hin ?_
    rintro _ _ ⟨rfl, Z, p1, z1, rfl⟩
    simp -dsimp only [h7, h6, h0, h1, h2, ↓preB, postB, genB, ↓reduceIte, Nat.reduceEqDiff, Int.reduceToNat, Int.reduceLE, Int.reduceLT, Nat.reduceAdd, Nat.reduceLeDiff, intBin, strBin, unD, extractD, lit1, lit2, lit3, keptD, boxR, D.one, D.pub1, D.cells, splice, cutOwn]
    obtain ⟨q1, q2⟩ := good_put (T := T) (o := o) (L := L) (Z := Z) (by decide) hL hP hX1 hX2 p1.length_eq z1 (p1.trans (by rw [hch k (Nat.le_refl _)]))
    have hp2 : (P ++ (Z ++ S)).Perm o := by
      refine List.Perm.trans ?_ hp
      conv => rhs; rw [hL]
      exact perm_mid P _ _ _ p1
    have hg2 : ∀ j, goodC T o (P ++ (Z ++ S)) 20 j := fun j => by
      by_cases hjk : j = k
      · subst hjk; exact q1
      · by_cases hjl : j < k
        · have := hg j hjl
          unfold goodC at this ⊢
          rw [q2 j hjk]; exact this
        · exact goodC_far hp2.length_eq (by
            have : (k + 1) * 20 ≤ j * 20 := Nat.mul_le_mul_right 20 (by omega)
            omega)
    generalize P ++ (Z ++ S) = L2 at hp2 hg2 ⊢
    clear hin q1 q2 p1 z1 hL hP hX hX1 hX2 hX3 hp hg hch hLn hk hk2
    refine pwp_loopG (fun (x : Nat × List ByteArray) env s => (0 < x.1 ∧ x.1 ≤ 300000 ∧ x.2.Perm o ∧ (∀ j, goodC T o x.2 x.1 j) ∧ s = σ.set r (.cells 9 (cellsT x.2 js))) ∧ env 6 = .int .i64 (x.1 : Nat) ∧ env 0 = .row r 0 n c 1 ∧ env 1 = .int .i64 n ∧ env 2 = .func g caps) (fun x => n - x.1) (20, L2) ?_ ?_
    · simp only [upd_apply, h7, h6, h0, h1, h2, Nat.reduceEqDiff, if_true, if_false]
      exact ⟨⟨by decide, by decide, hp2, hg2, by rw [Heap.set_set]⟩, rfl, trivial, trivial, trivial⟩
    · clear h7 h6 h0 h1 h2 hg2 hp2
      rintro ⟨bs, L⟩ env s ⟨⟨hb0, hb1, hp, hg, rfl⟩, h6, h0, h1, h2⟩
      simp only at hb0 hb1 hp hg h6 ⊢
      by_cases c1 : bs < n
      · have w1 := wmul2 (b := bs) (by omega)
        have w1' := wmul2' (b := bs) (by omega)
        simp -dsimp only [h6, h0, h1, h2, c1, w1, ↓preB, postB, genB, ↓reduceIte, Nat.reduceEqDiff, Int.reduceToNat, Int.reduceLE, Int.reduceLT, Nat.reduceAdd, Nat.reduceLeDiff, intBin, strBin, unD, extractD, lit1, lit2, lit3, keptD, boxR, D.one, D.pub1, D.cells, splice, cutOwn]
        refine pwp_loopJ 4 (fun env s => (∃ L k, L.Perm o ∧ k * (2 * bs) ≤ n ∧ n < k * (2 * bs) + 2 * bs ∧ (∀ j, j < k → goodC T o L (2 * bs) j) ∧ (∀ j, 2 * k ≤ j → goodC T o L bs j) ∧ s = σ.set r (.cells 9 (cellsT L js)) ∧ env 7 = .int .i64 (k * (2 * bs) : Nat)) ∧ env 6 = .int .i64 (bs : Nat) ∧ env 0 = .row r 0 n c 1 ∧ env 1 = .int .i64 n ∧ env 2 = .func g caps)
          (fun (x : Nat × List ByteArray) env s => (x.2.Perm o ∧ x.1 * (2 * bs) ≤ n ∧ (∀ j, j < x.1 → goodC T o x.2 (2 * bs) j) ∧ (∀ j, 2 * x.1 ≤ j → goodC T o x.2 bs j) ∧ s = σ.set r (.cells 9 (cellsT x.2 js))) ∧ env 7 = .int .i64 (x.1 * (2 * bs) : Nat) ∧ env 8 = .int .i64 (x.1 * (2 * bs) + 2 * bs : Nat) ∧ env 6 = .int .i64 (bs : Nat) ∧ env 0 = .row r 0 n c 1 ∧ env 1 = .int .i64 n ∧ env 2 = .func g caps) (fun x => n - x.1) (0, L) ?_ ?_ ?_
        · simp only [upd_apply, h6, h0, h1, h2, w1, Nat.reduceEqDiff, if_true, if_false]
          exact ⟨⟨hp, by omega, fun j hj => absurd hj (Nat.not_lt_zero _), fun j _ => hg j, trivial⟩, by simp⟩
        · clear h6 h0 h1 h2 hg hp
          rintro ⟨k, L⟩ env s ⟨⟨hp, hk, hg, hg2, rfl⟩, h7, h8, h6, h0, h1, h2⟩
          simp only at hp hk hg hg2 h7 h8 ⊢
          have hLn : L.length = n := by rw [hp.length_eq, hn]
          by_cases c2 : k * (2 * bs) + 2 * bs ≤ n
          · have c2' : ((k * (2 * bs) + 2 * bs : Nat) : Int) ≤ (n : Int) := by omega
            obtain ⟨P, S, hL, hP, hX1, hX2, hX3⟩ := chunk_parts (2 * bs) k L (by omega)
            have e2 : 2 * k * bs = k * (2 * bs) := by rw [Nat.mul_comm 2 k, Nat.mul_assoc]
            have e3 : (2 * k + 1) * bs = k * (2 * bs) + bs := by rw [Nat.add_mul, e2, Nat.one_mul]
            have hlX : (chunk bs (2 * k) L).length = bs := by unfold chunk; rw [List.length_take, List.length_drop, e2]; omega
            have hlY : (chunk bs (2 * k + 1) L).length = bs := by unfold chunk; rw [List.length_take, List.length_drop, e3]; omega
            obtain ⟨x1, x2⟩ := hg2 (2 * k) (Nat.le_refl _)
            obtain ⟨y1, y2⟩ := hg2 (2 * k + 1) (by omega)
            have hcr : ∀ x ∈ chunk bs (2 * k) L, ∀ y ∈ chunk bs (2 * k + 1) L, Fst cf T x y := fun x hx y hy => chunk_cross hC (x2.mem_iff.1 hx) (y2.mem_iff.1 hy)
            have hch2 := chunk_two bs k L
            have hpo : (chunk bs (2 * k) L ++ chunk bs (2 * k + 1) L).Perm (chunk (2 * bs) k o) := by rw [chunk_two]; exact x2.append y2
            rw [hch2] at hL hX1 hX2 hX3
            generalize chunk bs (2 * k) L = X at *
            generalize chunk bs (2 * k + 1) L = Y at *
            have hL' : L = P ++ (X ++ (Y ++ S)) := by rw [hL, List.append_assoc]
            have hm := symMerge_p (T := T) (cf := cf) tr _ P X Y S (Nat.le_refl _) (by omega) (by omega) x1 y1 hcr js r c g caps (n := n) (by rw [← hL', hLn]) (σ := σ.set r (.cells 9 (cellsT L js))) (by rw [← hL']; exact Heap.set_same _ _ _) hl (by rw [← hL']; exact (hc.perm hp.symm).set _)
            rw [hP, hlX, hlY, show k * (2 * bs) + bs + bs = k * (2 * bs) + 2 * bs by omega] at hm
            have w2 := wadd (a := k * (2 * bs)) (b := bs) (by simp only [big]; omega)
            have w3 : IntKind.i64.wrap (((k * (2 * bs) + 2 * bs : Nat) : Int) + ((2 * bs : Nat) : Int)) = (((k + 1) * (2 * bs) + 2 * bs : Nat) : Int) := by
              have := wadd (a := k * (2 * bs) + 2 * bs) (b := 2 * bs) (by simp only [big]; omega)
              rw [this]; congr 1; rw [Nat.add_mul, Nat.one_mul]
            simp -dsimp only [h7, h8, h6, h0, h1, h2, c2', w1, w2, exitR_exit, exitR_ret, ↓preB, postB, genB, ↓reduceIte, Nat.reduceEqDiff, Int.reduceToNat, Int.reduceLE, Int.reduceLT, Nat.reduceAdd, Nat.reduceLeDiff, intBin, strBin, unD, extractD, lit1, lit2, lit3, keptD, boxR, D.one, D.pub1, D.cells, splice, cutOwn]
            refine PCall.use hm ?_
            rintro _ _ ⟨rfl, Z, p1, z1, rfl⟩
            simp -dsimp only [h7, h8, h6, h0, h1, h2, w1, w3, exitR_exit, exitR_ret, ↓preB, postB, genB, ↓reduceIte, Nat.reduceEqDiff, Int.reduceToNat, Int.reduceLE, Int.reduceLT, Nat.reduceAdd, Nat.reduceLeDiff, intBin, strBin, unD, extractD, lit1, lit2, lit3, keptD, boxR, D.one, D.pub1, D.cells, splice, cutOwn]
            obtain ⟨q1, q2⟩ := good_put (T := T) (o := o) (L := L) (X := X ++ Y) (Z := Z) (by omega) hL hP hX1 hX2 p1.length_eq z1 (p1.trans hpo)
            have hkk : k ≤ k * (2 * bs) := Nat.le_mul_of_pos_right k (by omega)
            refine ⟨(k + 1, P ++ (Z ++ S)), ⟨⟨?_, by simp only []; rw [Nat.add_mul, Nat.one_mul]; omega, fun j hj => ?_, fun j hj => ?_, rfl⟩, ?_⟩, by simp only []; omega⟩
            · refine List.Perm.trans ?_ hp
              conv => rhs; rw [hL]
              exact perm_mid P _ _ _ p1
            · by_cases hjk : j = k
              · subst hjk; exact q1
              · have := hg j (by simp only at hj; omega)
                unfold goodC at this ⊢
                rw [q2 j hjk]; exact this
            · have := hg2 j (by simp only at hj; omega)
              unfold goodC at this ⊢
              have hb := chunk_behind (s := bs) (j := j) (P := P) (X := X ++ Y) (Z := Z) (S := S) p1.length_eq.symm (by
                have hmul : (2 * k + 2) * bs ≤ j * bs := Nat.mul_le_mul_right bs (by simp only at hj; omega)
                rw [hP, List.length_append, hlX, hlY]
                have : (2 * k + 2) * bs = k * (2 * bs) + 2 * bs := by rw [Nat.add_mul, e2]
                omega)
              rw [← hL] at hb
              rw [hb]; exact this
            · simp only [and_true, true_and]
              rw [show (k + 1) * (2 * bs) = k * (2 * bs) + 2 * bs by rw [Nat.add_mul, Nat.one_mul]]
          · have c2' : ¬ ((k * (2 * bs) + 2 * bs : Nat) : Int) ≤ (n : Int) := by omega
            simp -dsimp only [h7, h8, h6, h0, h1, h2, c2', exitR_exit, exitR_ret, ↓preB, postB, genB, ↓reduceIte, Nat.reduceEqDiff, Int.reduceToNat, Int.reduceLE, Int.reduceLT, Nat.reduceAdd, Nat.reduceLeDiff, intBin, strBin, unD, extractD, lit1, lit2, lit3, keptD, boxR, D.one, D.pub1, D.cells, splice, cutOwn]
            exact ⟨L, k, hp, hk, by omega, hg, hg2, rfl, rfl⟩
        · clear h6 h0 h1 h2 hg hp
          rintro env s ⟨⟨L, k, hp, hk, hk2, hg, hg2, rfl, h7⟩, h6, h0, h1, h2⟩
          have hLn : L.length = n := by rw [hp.length_eq, hn]
          have e2 : 2 * k * bs = k * (2 * bs) := by rw [Nat.mul_comm 2 k, Nat.mul_assoc]
          have e3 : (2 * k + 1) * bs = k * (2 * bs) + bs := by rw [Nat.add_mul, e2, Nat.one_mul]
          have w2 := wadd (a := k * (2 * bs)) (b := bs) (by simp only [big]; omega)
          have far : ∀ (L : List ByteArray) j, L.length = o.length → k < j → goodC T o L (2 * bs) j := fun L j hlo hj => goodC_far hlo (by
            have : (k + 1) * (2 * bs) ≤ j * (2 * bs) := Nat.mul_le_mul_right _ hj
            rw [Nat.add_mul, Nat.one_mul] at this
            omega)
          by_cases c3 : k * (2 * bs) + bs < n
          · obtain ⟨P, S, hL, hP, hX1, hX2, hX3⟩ := chunk_parts (2 * bs) k L (by omega)
            have hlX : (chunk bs (2 * k) L).length = bs := by unfold chunk; rw [List.length_take, List.length_drop, e2]; omega
            have hlY : (chunk bs (2 * k + 1) L).length = n - (k * (2 * bs) + bs) := by unfold chunk; rw [List.length_take, List.length_drop, e3]; omega
            obtain ⟨x1, x2⟩ := hg2 (2 * k) (Nat.le_refl _)
            obtain ⟨y1, y2⟩ := hg2 (2 * k + 1) (by omega)
            have hcr : ∀ x ∈ chunk bs (2 * k) L, ∀ y ∈ chunk bs (2 * k + 1) L, Fst cf T x y := fun x hx y hy => chunk_cross hC (x2.mem_iff.1 hx) (y2.mem_iff.1 hy)
            have hch2 := chunk_two bs k L
            have hpo : (chunk bs (2 * k) L ++ chunk bs (2 * k + 1) L).Perm (chunk (2 * bs) k o) := by rw [chunk_two]; exact x2.append y2
            rw [hch2] at hL hX1 hX2 hX3
            generalize chunk bs (2 * k) L = X at *
            generalize chunk bs (2 * k + 1) L = Y at *
            have hL' : L = P ++ (X ++ (Y ++ S)) := by rw [hL, List.append_assoc]
            have hm := symMerge_p (T := T) (cf := cf) tr _ P X Y S (Nat.le_refl _) (by omega) (by omega) x1 y1 hcr js r c g caps (n := n) (by rw [← hL', hLn]) (σ := σ.set r (.cells 9 (cellsT L js))) (by rw [← hL']; exact Heap.set_same _ _ _) hl (by rw [← hL']; exact (hc.perm hp.symm).set _)
            rw [hP, hlX, hlY, show k * (2 * bs) + bs + (n - (k * (2 * bs) + bs)) = n by omega] at hm
            simp -dsimp only [h7, h6, h0, h1, h2, w2, c3, ↓preB, postB, genB, ↓reduceIte, Nat.reduceEqDiff, Int.reduceToNat, Int.reduceLE, Int.reduceLT, Nat.reduceAdd, Nat.reduceLeDiff, intBin, strBin, unD, extractD, lit1, lit2, lit3, keptD, boxR, D.one, D.pub1, D.cells, splice, cutOwn]
            refine PCall.use hm ?_
            rintro _ _ ⟨rfl, Z, p1, z1, rfl⟩
            simp -dsimp only [h7, h6, h0, h1, h2, w1', ↓preB, postB, genB, ↓reduceIte, Nat.reduceEqDiff, Int.reduceToNat, Int.reduceLE, Int.reduceLT, Nat.reduceAdd, Nat.reduceLeDiff, intBin, strBin, unD, extractD, lit1, lit2, lit3, keptD, boxR, D.one, D.pub1, D.cells, splice, cutOwn]
            obtain ⟨q1, q2⟩ := good_put (T := T) (o := o) (L := L) (X := X ++ Y) (Z := Z) (by omega) hL hP hX1 hX2 p1.length_eq z1 (p1.trans hpo)
            have hp2 : (P ++ (Z ++ S)).Perm o := by
              refine List.Perm.trans ?_ hp
              conv => rhs; rw [hL]
              exact perm_mid P _ _ _ p1
            refine ⟨(2 * bs, P ++ (Z ++ S)), ⟨⟨by simp only []; omega, by simp only []; omega, hp2, fun j => ?_, rfl⟩, rfl⟩, by simp only []; omega⟩
            by_cases hjk : j = k
            · subst hjk; exact q1
            · by_cases hjl : j < k
              · have := hg j hjl
                unfold goodC at this ⊢
                rw [q2 j hjk]; exact this
              · exact far _ j hp2.length_eq (by omega)
          · simp -dsimp only [h7, h6, h0, h1, h2, w2, w1', c3, ↓preB, postB, genB, ↓reduceIte, Nat.reduceEqDiff, Int.reduceToNat, Int.reduceLE, Int.reduceLT, Nat.reduceAdd, Nat.reduceLeDiff, intBin, strBin, unD, extractD, lit1, lit2, lit3, keptD, boxR, D.one, D.pub1, D.cells, splice, cutOwn]
            refine ⟨(2 * bs, L), ⟨⟨by simp only []; omega, by simp only []; omega, hp, fun j => ?_, rfl⟩, rfl⟩, by simp only []; omega⟩
            by_cases hjk : j = k
            · subst hjk
              obtain ⟨x1, x2⟩ := hg2 (2 * j) (Nat.le_refl _)
              unfold goodC
              rw [chunk_two, chunk_two, chunk_far (s := bs) (k := 2 * j + 1) (l := L) (by rw [e3]; omega), chunk_far (s := bs) (k := 2 * j + 1) (l := o) (by rw [e3]; omega), List.append_nil, List.append_nil]
              exact ⟨x1, x2⟩
            · by_cases hjl : j < k
              · exact hg j hjl
              · exact far _ j hp.length_eq (by omega)
      · simp -dsimp only [h6, h0, h1, h2, c1, ↓preB, postB, genB, ↓reduceIte, Nat.reduceEqDiff, Int.reduceToNat, Int.reduceLE, Int.reduceLT, Nat.reduceAdd, Nat.reduceLeDiff, intBin, strBin, unD, extractD, lit1, lit2, lit3, keptD, boxR, D.one, D.pub1, D.cells, splice, cutOwn]
        have := goodC_whole (T := T) hp.length_eq (by omega) (hg 0)
        exact Ret.now (Nat.le_refl _) ⟨rfl, L, this.2, this.1, rfl⟩
theorem sortStable_p (tr : ∀ {a b c : ByteArray}, T a b → T b c → T a c) (o : List ByteArray) (hC : o.Pairwise (Fst cf T)) (js : List D) (r : Nat) (c : Option Nat) (g : FuncId) (caps : List D) {n : Nat} (hn : n = o.length) {σ : Heap} (hr : σ.get r = some (.cells 9 (cellsT o js))) (hl : n ≤ 100000) (hc : CmpAt g caps cf σ r js o) :
    PCall Zs 36 [.row r 0 n c 1, .func g caps] σ (fun d τ => d = .tup [] ∧ ∃ Z, Z.Perm o ∧ Z.Pairwise T ∧ τ = σ.set r (.cells 9 (cellsT Z js))) := by
  refine pcall_of (Z := Zs) ok36 fun hcl hbl => ?_
  simp -dsimp only [L36, ↓preB, postB, genB, ↓reduceIte, Nat.reduceEqDiff, Int.reduceToNat, Int.reduceLE, Int.reduceLT, Nat.reduceAdd, Nat.reduceLeDiff, intBin, strBin, unD, extractD, lit1, lit2, lit3, keptD, boxR, D.one, D.pub1, D.cells, splice, cutOwn]
  intro hb
  refine PCall.use (stable_p (T := T) (cf := cf) tr o hC js r c g caps hn hr hl hc) ?_
  rintro _ _ ⟨rfl, Z, p1, z1, rfl⟩
  simp -dsimp only [↓preB, postB, genB, ↓reduceIte, Nat.reduceEqDiff, Int.reduceToNat, Int.reduceLE, Int.reduceLT, Nat.reduceAdd, Nat.reduceLeDiff, intBin, strBin, unD, extractD, lit1, lit2, lit3, keptD, boxR, D.one, D.pub1, D.cells, splice, cutOwn]
  exact Ret.now (Nat.le_refl _) ⟨rfl, Z, p1, z1, rfl⟩
end
end Go.Proofs.Ythchlpikcpidaaa.Vs
