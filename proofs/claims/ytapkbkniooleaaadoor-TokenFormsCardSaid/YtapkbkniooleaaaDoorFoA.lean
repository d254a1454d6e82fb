/- numbers of YtapkbkniooleaaaDoor -/
import Derived.Test.YtapkbkniooleaaaDoorTkO
namespace Go.Proofs.YtapkbkniooleaaaDoor.Vs
set_option linter.unusedVariables false
set_option linter.unusedSimpArgs false
set_option maxRecDepth 100000
def encY (l : List UInt8) : List D := l.map fun b => .int .u8 b.toNat
theorem bytes_encY : ∀ l : List UInt8, bytesD (encY l) = some (l.map fun b => (b.toNat : Int))
  | [] => rfl
  | b :: l => by rw [encY, List.map_cons, bytesD, ← encY, bytes_encY l]; rfl
theorem push_encY (l : List UInt8) : pushB (l.map fun b => (b.toNat : Int)) = ⟨l.toArray⟩ := by
  have key : ∀ (l : List UInt8) (r : ByteArray), (l.map fun b => (b.toNat : Int)).foldl (fun r n => r.push (UInt8.ofNat n.toNat)) r = ⟨(r.data.toList ++ l).toArray⟩ := by
    intro l
    induction l with
    | nil => intro r; cases r; simp
    | cons b l ih =>
      intro r
      rw [List.map_cons, List.foldl_cons, ih]
      congr 1
      simp [ByteArray.push]
  exact key l _
def kindU (b : UInt8) : UInt8 := if isBigI (b.toNat : Int) = true then 65 else if isLetterI (b.toNat : Int) = true then 97 else if isDigitI (b.toNat : Int) = true then 57 else b
def shpS (acc : List UInt8) (b : UInt8) : List UInt8 := if acc.getLast? = some (kindU b) then acc else acc ++ [kindU b]
/-- The shape of a text. -/
def shapeW (s : ByteArray) : List UInt8 := s.data.toList.foldl shpS []
theorem shp_len (l : List UInt8) : ∀ acc : List UInt8, (l.foldl shpS acc).length ≤ acc.length + l.length := by
  induction l with
  | nil => intro acc; simp
  | cons b l ih =>
    intro acc
    rw [List.foldl_cons, List.length_cons]
    have h1 := ih (shpS acc b)
    have h2 : (shpS acc b).length ≤ acc.length + 1 := by
      unfold shpS
      split
      · omega
      · simp
    omega
theorem bs49 (a : Int) (nx : Nat) : buildSliceR Zs 0 49 1 [(0, .int .u8 a)] nx = some (.sl .full 1 [.int .u8 a], .keep) := by rfl
theorem Shape_c (s : ByteArray) (hs : s.size ≤ 1000000) : Fn Zs 12 [.str s] (.str ⟨(shapeW s).toArray⟩) := by
  refine fn_of (Z := Zs) ok12 fun σ hcl hbl => ?_
  simp -dsimp only [L12, ↓preB, postB, genB, ↓reduceIte, Nat.reduceEqDiff, Int.reduceToNat, Int.reduceLE, Int.reduceLT, Nat.reduceAdd, Nat.reduceLeDiff, intBin, strBin, unD, extractD, lit1, lit2, lit3, keptD, boxR, D.one, D.pub1, D.cells, splice, cutOwn]
  have hlen : s.data.toList.length = s.size := rfl
  have hall : (shapeW s).length ≤ s.size := by have := shp_len s.data.toList []; simpa [shapeW] using this
  intro hbig
  refine pwp_loopJ 0 (fun e τ => Acc 5 1 σ (shapeW s).length (encY (shapeW s)) (e 3) τ) (fun (x : Nat × List UInt8) env τ => x.1 ≤ s.size ∧ shapeW s = (s.data.toList.drop x.1).foldl shpS x.2 ∧ x.2.length ≤ x.1 ∧ Acc 5 1 σ x.2.length (encY x.2) (env 3) τ ∧ env 8 = .int .i64 (x.1:Nat) ∧ env 7 = .int .i64 s.size ∧ env 0 = .str s) (fun x => s.size - x.1) (0, []) ?_ ?_ ?_
  · simp only [upd_apply, envOf_apply, Nat.reduceEqDiff, if_true, if_false]
    exact ⟨Nat.zero_le _, rfl, Nat.le_refl _, .nil (HLe.refl _), (by first | trivial | rfl | omega), (by first | trivial | rfl | omega), (by first | trivial | rfl | omega)⟩
  · rintro ⟨k, acc⟩ env τ ⟨hk, hp, ha, hA, h8, h7, h0⟩
    simp only [] at hk hp ha hA h8
    rcases Nat.lt_or_ge k s.size with hlt | hge
    · have hn : (k : Int) < s.size := by omega
      have hkl : k < s.data.toList.length := hlt
      have hb : byteAt s k = ((s.data.toList[k]).toNat : Int) := by
        unfold byteAt
        rw [List.getD_eq_getElem?_getD, List.getElem?_eq_getElem hkl]; rfl
      rw [List.drop_eq_getElem_cons hkl, List.foldl_cons] at hp
      generalize s.data.toList[k] = b at hb hp
      have wk : IntKind.i64.wrap ((k : Int) + 1) = ((k + 1 : Nat) : Int) := wrap64_succ (by simp only [big]; omega)
      have hku : kindU b = if isBigI (b.toNat : Int) = true then 65 else if isLetterI (b.toNat : Int) = true then 97 else if isDigitI (b.toNat : Int) = true then 57 else b := rfl
      have hS : shpS acc b = if acc.getLast? = some (kindU b) then acc else acc ++ [kindU b] := rfl
      have hacl : (encY acc).length = acc.length := by simp [encY]
      obtain ⟨o, ho⟩ := hA.is
      simp -dsimp only [h8, h7, h0, hn, hlt, hb, exitR_exit, ↓preB, postB, genB, ↓reduceIte, Nat.reduceEqDiff, Int.reduceToNat, Int.reduceLE, Int.reduceLT, Nat.reduceAdd, Nat.reduceLeDiff, intBin, strBin, unD, extractD, lit1, lit2, lit3, keptD, boxR, D.one, D.pub1, D.cells, splice, cutOwn]
      refine Fn.use (isBig_c _) ?_
      cases q1 : isBigI (b.toNat : Int)
      · simp -dsimp only [h8, h7, h0, ho, hacl, q1, exitR_exit, gate, decide_true, decide_false, Bool.not_true, Bool.not_false, bTT, bTF, bFT, bFF, ↓preB, postB, genB, ↓reduceIte, Nat.reduceEqDiff, Int.reduceToNat, Int.reduceLE, Int.reduceLT, Nat.reduceAdd, Nat.reduceLeDiff, intBin, strBin, unD, extractD, lit1, lit2, lit3, keptD, boxR, D.one, D.pub1, D.cells, splice, cutOwn]
        refine Fn.use (isLetter_c _) ?_
        cases q2 : isLetterI (b.toNat : Int)
        · simp -dsimp only [h8, h7, h0, ho, hacl, q1, q2, exitR_exit, gate, decide_true, decide_false, Bool.not_true, Bool.not_false, bTT, bTF, bFT, bFF, ↓preB, postB, genB, ↓reduceIte, Nat.reduceEqDiff, Int.reduceToNat, Int.reduceLE, Int.reduceLT, Nat.reduceAdd, Nat.reduceLeDiff, intBin, strBin, unD, extractD, lit1, lit2, lit3, keptD, boxR, D.one, D.pub1, D.cells, splice, cutOwn]
          refine Fn.use (isDigit_c _) ?_
          cases q3 : isDigitI (b.toNat : Int)
          · have hv : ((kindU b).toNat : Int) = (b.toNat : Int) := by rw [hku, q1, q2, q3]; rfl
            have fin : ∀ (d6 : D) (τ6 : Heap), Acc 5 1 σ (acc.length + 1) (encY acc ++ [.int .u8 (b.toNat : Int)]) d6 τ6 → Acc 5 1 σ (acc ++ [kindU b]).length (encY (acc ++ [kindU b])) d6 τ6 := fun d6 τ6 h => by
              rw [List.length_append, encY, List.map_append, List.map_singleton, hv]
              exact h
            by_cases hnil : acc = []
            · have hl0 : acc.length = 0 := by rw [hnil]; rfl
              have c0 : ((acc.length : Int) == 0) = true := by rw [hl0]; rfl
              have hS2 : shpS acc b = acc ++ [kindU b] := by rw [hS, hnil]; rfl
              rw [hS2] at hp
              simp -dsimp only [h8, h7, h0, ho, hacl, q1, q2, q3, c0, bs49, exitR_exit, gate, decide_true, decide_false, Bool.not_true, Bool.not_false, bTT, bTF, bFT, bFF, ↓preB, postB, genB, ↓reduceIte, Nat.reduceEqDiff, Int.reduceToNat, Int.reduceLE, Int.reduceLT, Nat.reduceAdd, Nat.reduceLeDiff, intBin, strBin, unD, extractD, lit1, lit2, lit3, keptD, boxR, D.one, D.pub1, D.cells, splice, cutOwn]
              intro _
              rw [← ho]
              refine hA.append hcl tz49 rfl tz5 rfl rfl rfl (by decide) (by rw [hacl]; simp) (fedBy_sl (m := 1) tz49 rfl rfl) (by simp only []; omega) (by simp only [big]; omega) fun d6 τ6 hA6 => ?_
              simp -dsimp only [h8, h7, h0, ho, hacl, q1, q2, q3, wk, exitR_exit, gate, decide_true, decide_false, Bool.not_true, Bool.not_false, bTT, bTF, bFT, bFF, ↓preB, postB, genB, ↓reduceIte, Nat.reduceEqDiff, Int.reduceToNat, Int.reduceLE, Int.reduceLT, Nat.reduceAdd, Nat.reduceLeDiff, intBin, strBin, unD, extractD, lit1, lit2, lit3, keptD, boxR, D.one, D.pub1, D.cells, splice, cutOwn]
              exact ⟨(k + 1, acc ++ [kindU b]), ⟨by simp only []; omega, hp, by simp only [List.length_append, List.length_cons, List.length_nil]; omega, fin _ _ hA6, rfl⟩, by simp only []; omega⟩
            · have hl0 : 0 < acc.length := List.length_pos_iff.2 hnil
              have c0 : ((acc.length : Int) == 0) = false := by simp only [beq_eq_false_iff_ne, ne_eq]; omega
              have w1 : IntKind.i64.wrap ((acc.length : Int) - 1) = ((acc.length - 1 : Nat) : Int) := by rw [wrap64_in (by omega) (by omega)]; omega
              have hlast : (encY acc)[acc.length - 1]? = some (.int .u8 ((acc[acc.length - 1]'(by omega)).toNat : Int)) := by
                    rw [encY, List.getElem?_map, List.getElem?_eq_getElem (show acc.length - 1 < acc.length by omega)]
                    rfl
              have hgl : acc.getLast? = some (acc[acc.length - 1]'(by omega)) := by rw [List.getLast?_eq_getElem?, List.getElem?_eq_getElem]
              have hx1 : ((acc.length - 1 : Nat) : Int) < (acc.length : Int) := by omega
              have hx2 : acc.length - 1 < acc.length := by omega
              rw [hgl] at hS
              generalize acc[acc.length - 1]'(by omega) = y at hlast hS
              by_cases e : y = kindU b
              · have hS2 : shpS acc b = acc := by rw [hS, if_pos (by rw [e])]
                rw [hS2] at hp
                have c1 : ((y.toNat : Int) != (b.toNat : Int)) = false := by rw [e, hv]; simp
                simp -dsimp only [h8, h7, h0, ho, hacl, q1, q2, q3, c0, w1, hlast, hx1, hx2, hl0, c1, wk, exitR_exit, gate, decide_true, decide_false, Bool.not_true, Bool.not_false, bTT, bTF, bFT, bFF, ↓preB, postB, genB, ↓reduceIte, Nat.reduceEqDiff, Int.reduceToNat, Int.reduceLE, Int.reduceLT, Nat.reduceAdd, Nat.reduceLeDiff, intBin, strBin, unD, extractD, lit1, lit2, lit3, keptD, boxR, D.one, D.pub1, D.cells, splice, cutOwn]
                intros
                exact ⟨(k + 1, acc), ⟨by simp only []; omega, hp, by simp only []; omega, by rw [← ho]; exact hA, rfl⟩, by simp only []; omega⟩
              · have hS2 : shpS acc b = acc ++ [kindU b] := by rw [hS, if_neg fun h => e (Option.some.inj h)]
                rw [hS2] at hp
                have c1 : ((y.toNat : Int) != (b.toNat : Int)) = true := by
                  rw [← hv]
                  simp only [bne_iff_ne, ne_eq]
                  exact fun h => e (UInt8.toNat_inj.1 (by omega))
                simp -dsimp only [h8, h7, h0, ho, hacl, q1, q2, q3, c0, w1, hlast, hx1, hx2, hl0, c1, bs49, exitR_exit, gate, decide_true, decide_false, Bool.not_true, Bool.not_false, bTT, bTF, bFT, bFF, ↓preB, postB, genB, ↓reduceIte, Nat.reduceEqDiff, Int.reduceToNat, Int.reduceLE, Int.reduceLT, Nat.reduceAdd, Nat.reduceLeDiff, intBin, strBin, unD, extractD, lit1, lit2, lit3, keptD, boxR, D.one, D.pub1, D.cells, splice, cutOwn]
                intros
                rw [← ho]
                refine hA.append hcl tz49 rfl tz5 rfl rfl rfl (by decide) (by rw [hacl]; simp) (fedBy_sl (m := 1) tz49 rfl rfl) (by simp only []; omega) (by simp only [big]; omega) fun d6 τ6 hA6 => ?_
                simp -dsimp only [h8, h7, h0, ho, hacl, q1, q2, q3, wk, exitR_exit, gate, decide_true, decide_false, Bool.not_true, Bool.not_false, bTT, bTF, bFT, bFF, ↓preB, postB, genB, ↓reduceIte, Nat.reduceEqDiff, Int.reduceToNat, Int.reduceLE, Int.reduceLT, Nat.reduceAdd, Nat.reduceLeDiff, intBin, strBin, unD, extractD, lit1, lit2, lit3, keptD, boxR, D.one, D.pub1, D.cells, splice, cutOwn]
                exact ⟨(k + 1, acc ++ [kindU b]), ⟨by simp only []; omega, hp, by simp only [List.length_append, List.length_cons, List.length_nil]; omega, fin _ _ hA6, rfl⟩, by simp only []; omega⟩
          · have hv : ((kindU b).toNat : Int) = 57 := by rw [hku, q1, q2, q3]; rfl
            have fin : ∀ (d6 : D) (τ6 : Heap), Acc 5 1 σ (acc.length + 1) (encY acc ++ [.int .u8 57]) d6 τ6 → Acc 5 1 σ (acc ++ [kindU b]).length (encY (acc ++ [kindU b])) d6 τ6 := fun d6 τ6 h => by
              rw [List.length_append, encY, List.map_append, List.map_singleton, hv]
              exact h
            by_cases hnil : acc = []
            · have hl0 : acc.length = 0 := by rw [hnil]; rfl
              have c0 : ((acc.length : Int) == 0) = true := by rw [hl0]; rfl
              have hS2 : shpS acc b = acc ++ [kindU b] := by rw [hS, hnil]; rfl
              rw [hS2] at hp
              simp -dsimp only [h8, h7, h0, ho, hacl, q1, q2, q3, c0, bs49, exitR_exit, gate, decide_true, decide_false, Bool.not_true, Bool.not_false, bTT, bTF, bFT, bFF, ↓preB, postB, genB, ↓reduceIte, Nat.reduceEqDiff, Int.reduceToNat, Int.reduceLE, Int.reduceLT, Nat.reduceAdd, Nat.reduceLeDiff, intBin, strBin, unD, extractD, lit1, lit2, lit3, keptD, boxR, D.one, D.pub1, D.cells, splice, cutOwn]
              intro _
              rw [← ho]
              refine hA.append hcl tz49 rfl tz5 rfl rfl rfl (by decide) (by rw [hacl]; simp) (fedBy_sl (m := 1) tz49 rfl rfl) (by simp only []; omega) (by simp only [big]; omega) fun d6 τ6 hA6 => ?_
              simp -dsimp only [h8, h7, h0, ho, hacl, q1, q2, q3, wk, exitR_exit, gate, decide_true, decide_false, Bool.not_true, Bool.not_false, bTT, bTF, bFT, bFF, ↓preB, postB, genB, ↓reduceIte, Nat.reduceEqDiff, Int.reduceToNat, Int.reduceLE, Int.reduceLT, Nat.reduceAdd, Nat.reduceLeDiff, intBin, strBin, unD, extractD, lit1, lit2, lit3, keptD, boxR, D.one, D.pub1, D.cells, splice, cutOwn]
              exact ⟨(k + 1, acc ++ [kindU b]), ⟨by simp only []; omega, hp, by simp only [List.length_append, List.length_cons, List.length_nil]; omega, fin _ _ hA6, rfl⟩, by simp only []; omega⟩
            · have hl0 : 0 < acc.length := List.length_pos_iff.2 hnil
              have c0 : ((acc.length : Int) == 0) = false := by simp only [beq_eq_false_iff_ne, ne_eq]; omega
              have w1 : IntKind.i64.wrap ((acc.length : Int) - 1) = ((acc.length - 1 : Nat) : Int) := by rw [wrap64_in (by omega) (by omega)]; omega
              have hlast : (encY acc)[acc.length - 1]? = some (.int .u8 ((acc[acc.length - 1]'(by omega)).toNat : Int)) := by
                    rw [encY, List.getElem?_map, List.getElem?_eq_getElem (show acc.length - 1 < acc.length by omega)]
                    rfl
              have hgl : acc.getLast? = some (acc[acc.length - 1]'(by omega)) := by rw [List.getLast?_eq_getElem?, List.getElem?_eq_getElem]
              have hx1 : ((acc.length - 1 : Nat) : Int) < (acc.length : Int) := by omega
              have hx2 : acc.length - 1 < acc.length := by omega
              rw [hgl] at hS
              generalize acc[acc.length - 1]'(by omega) = y at hlast hS
              by_cases e : y = kindU b
              · have hS2 : shpS acc b = acc := by rw [hS, if_pos (by rw [e])]
                rw [hS2] at hp
                have c1 : ((y.toNat : Int) != 57) = false := by rw [e, hv]; simp
                simp -dsimp only [h8, h7, h0, ho, hacl, q1, q2, q3, c0, w1, hlast, hx1, hx2, hl0, c1, wk, exitR_exit, gate, decide_true, decide_false, Bool.not_true, Bool.not_false, bTT, bTF, bFT, bFF, ↓preB, postB, genB, ↓reduceIte, Nat.reduceEqDiff, Int.reduceToNat, Int.reduceLE, Int.reduceLT, Nat.reduceAdd, Nat.reduceLeDiff, intBin, strBin, unD, extractD, lit1, lit2, lit3, keptD, boxR, D.one, D.pub1, D.cells, splice, cutOwn]
                intros
                exact ⟨(k + 1, acc), ⟨by simp only []; omega, hp, by simp only []; omega, by rw [← ho]; exact hA, rfl⟩, by simp only []; omega⟩
              · have hS2 : shpS acc b = acc ++ [kindU b] := by rw [hS, if_neg fun h => e (Option.some.inj h)]
                rw [hS2] at hp
                have c1 : ((y.toNat : Int) != 57) = true := by
                  rw [← hv]
                  simp only [bne_iff_ne, ne_eq]
                  exact fun h => e (UInt8.toNat_inj.1 (by omega))
                simp -dsimp only [h8, h7, h0, ho, hacl, q1, q2, q3, c0, w1, hlast, hx1, hx2, hl0, c1, bs49, exitR_exit, gate, decide_true, decide_false, Bool.not_true, Bool.not_false, bTT, bTF, bFT, bFF, ↓preB, postB, genB, ↓reduceIte, Nat.reduceEqDiff, Int.reduceToNat, Int.reduceLE, Int.reduceLT, Nat.reduceAdd, Nat.reduceLeDiff, intBin, strBin, unD, extractD, lit1, lit2, lit3, keptD, boxR, D.one, D.pub1, D.cells, splice, cutOwn]
                intros
                rw [← ho]
                refine hA.append hcl tz49 rfl tz5 rfl rfl rfl (by decide) (by rw [hacl]; simp) (fedBy_sl (m := 1) tz49 rfl rfl) (by simp only []; omega) (by simp only [big]; omega) fun d6 τ6 hA6 => ?_
                simp -dsimp only [h8, h7, h0, ho, hacl, q1, q2, q3, wk, exitR_exit, gate, decide_true, decide_false, Bool.not_true, Bool.not_false, bTT, bTF, bFT, bFF, ↓preB, postB, genB, ↓reduceIte, Nat.reduceEqDiff, Int.reduceToNat, Int.reduceLE, Int.reduceLT, Nat.reduceAdd, Nat.reduceLeDiff, intBin, strBin, unD, extractD, lit1, lit2, lit3, keptD, boxR, D.one, D.pub1, D.cells, splice, cutOwn]
                exact ⟨(k + 1, acc ++ [kindU b]), ⟨by simp only []; omega, hp, by simp only [List.length_append, List.length_cons, List.length_nil]; omega, fin _ _ hA6, rfl⟩, by simp only []; omega⟩
        · have hv : ((kindU b).toNat : Int) = 97 := by rw [hku, q1, q2]; rfl
          have fin : ∀ (d6 : D) (τ6 : Heap), Acc 5 1 σ (acc.length + 1) (encY acc ++ [.int .u8 97]) d6 τ6 → Acc 5 1 σ (acc ++ [kindU b]).length (encY (acc ++ [kindU b])) d6 τ6 := fun d6 τ6 h => by
            rw [List.length_append, encY, List.map_append, List.map_singleton, hv]
            exact h
          by_cases hnil : acc = []
          · have hl0 : acc.length = 0 := by rw [hnil]; rfl
            have c0 : ((acc.length : Int) == 0) = true := by rw [hl0]; rfl
            have hS2 : shpS acc b = acc ++ [kindU b] := by rw [hS, hnil]; rfl
            rw [hS2] at hp
            simp -dsimp only [h8, h7, h0, ho, hacl, q1, q2, c0, bs49, exitR_exit, gate, decide_true, decide_false, Bool.not_true, Bool.not_false, bTT, bTF, bFT, bFF, ↓preB, postB, genB, ↓reduceIte, Nat.reduceEqDiff, Int.reduceToNat, Int.reduceLE, Int.reduceLT, Nat.reduceAdd, Nat.reduceLeDiff, intBin, strBin, unD, extractD, lit1, lit2, lit3, keptD, boxR, D.one, D.pub1, D.cells, splice, cutOwn]
            intro _
            rw [← ho]
            refine hA.append hcl tz49 rfl tz5 rfl rfl rfl (by decide) (by rw [hacl]; simp) (fedBy_sl (m := 1) tz49 rfl rfl) (by simp only []; omega) (by simp only [big]; omega) fun d6 τ6 hA6 => ?_
            simp -dsimp only [h8, h7, h0, ho, hacl, q1, q2, wk, exitR_exit, gate, decide_true, decide_false, Bool.not_true, Bool.not_false, bTT, bTF, bFT, bFF, ↓preB, postB, genB, ↓reduceIte, Nat.reduceEqDiff, Int.reduceToNat, Int.reduceLE, Int.reduceLT, Nat.reduceAdd, Nat.reduceLeDiff, intBin, strBin, unD, extractD, lit1, lit2, lit3, keptD, boxR, D.one, D.pub1, D.cells, splice, cutOwn]
            exact ⟨(k + 1, acc ++ [kindU b]), ⟨by simp only []; omega, hp, by simp only [List.length_append, List.length_cons, List.length_nil]; omega, fin _ _ hA6, rfl⟩, by simp only []; omega⟩
          · have hl0 : 0 < acc.length := List.length_pos_iff.2 hnil
            have c0 : ((acc.length : Int) == 0) = false := by simp only [beq_eq_false_iff_ne, ne_eq]; omega
            have w1 : IntKind.i64.wrap ((acc.length : Int) - 1) = ((acc.length - 1 : Nat) : Int) := by rw [wrap64_in (by omega) (by omega)]; omega
            have hlast : (encY acc)[acc.length - 1]? = some (.int .u8 ((acc[acc.length - 1]'(by omega)).toNat : Int)) := by
                    rw [encY, List.getElem?_map, List.getElem?_eq_getElem (show acc.length - 1 < acc.length by omega)]
                    rfl
            have hgl : acc.getLast? = some (acc[acc.length - 1]'(by omega)) := by rw [List.getLast?_eq_getElem?, List.getElem?_eq_getElem]
            have hx1 : ((acc.length - 1 : Nat) : Int) < (acc.length : Int) := by omega
            have hx2 : acc.length - 1 < acc.length := by omega
            rw [hgl] at hS
            generalize acc[acc.length - 1]'(by omega) = y at hlast hS
            by_cases e : y = kindU b
            · have hS2 : shpS acc b = acc := by rw [hS, if_pos (by rw [e])]
              rw [hS2] at hp
              have c1 : ((y.toNat : Int) != 97) = false := by rw [e, hv]; simp
              simp -dsimp only [h8, h7, h0, ho, hacl, q1, q2, c0, w1, hlast, hx1, hx2, hl0, c1, wk, exitR_exit, gate, decide_true, decide_false, Bool.not_true, Bool.not_false, bTT, bTF, bFT, bFF, ↓preB, postB, genB, ↓reduceIte, Nat.reduceEqDiff, Int.reduceToNat, Int.reduceLE, Int.reduceLT, Nat.reduceAdd, Nat.reduceLeDiff, intBin, strBin, unD, extractD, lit1, lit2, lit3, keptD, boxR, D.one, D.pub1, D.cells, splice, cutOwn]
              intros
              exact ⟨(k + 1, acc), ⟨by simp only []; omega, hp, by simp only []; omega, by rw [← ho]; exact hA, rfl⟩, by simp only []; omega⟩
            · have hS2 : shpS acc b = acc ++ [kindU b] := by rw [hS, if_neg fun h => e (Option.some.inj h)]
              rw [hS2] at hp
              have c1 : ((y.toNat : Int) != 97) = true := by
                rw [← hv]
                simp only [bne_iff_ne, ne_eq]
                exact fun h => e (UInt8.toNat_inj.1 (by omega))
              simp -dsimp only [h8, h7, h0, ho, hacl, q1, q2, c0, w1, hlast, hx1, hx2, hl0, c1, bs49, exitR_exit, gate, decide_true, decide_false, Bool.not_true, Bool.not_false, bTT, bTF, bFT, bFF, ↓preB, postB, genB, ↓reduceIte, Nat.reduceEqDiff, Int.reduceToNat, Int.reduceLE, Int.reduceLT, Nat.reduceAdd, Nat.reduceLeDiff, intBin, strBin, unD, extractD, lit1, lit2, lit3, keptD, boxR, D.one, D.pub1, D.cells, splice, cutOwn]
              intros
              rw [← ho]
              refine hA.append hcl tz49 rfl tz5 rfl rfl rfl (by decide) (by rw [hacl]; simp) (fedBy_sl (m := 1) tz49 rfl rfl) (by simp only []; omega) (by simp only [big]; omega) fun d6 τ6 hA6 => ?_
              simp -dsimp only [h8, h7, h0, ho, hacl, q1, q2, wk, exitR_exit, gate, decide_true, decide_false, Bool.not_true, Bool.not_false, bTT, bTF, bFT, bFF, ↓preB, postB, genB, ↓reduceIte, Nat.reduceEqDiff, Int.reduceToNat, Int.reduceLE, Int.reduceLT, Nat.reduceAdd, Nat.reduceLeDiff, intBin, strBin, unD, extractD, lit1, lit2, lit3, keptD, boxR, D.one, D.pub1, D.cells, splice, cutOwn]
              exact ⟨(k + 1, acc ++ [kindU b]), ⟨by simp only []; omega, hp, by simp only [List.length_append, List.length_cons, List.length_nil]; omega, fin _ _ hA6, rfl⟩, by simp only []; omega⟩
      · have hv : ((kindU b).toNat : Int) = 65 := by rw [hku, q1]; rfl
        have fin : ∀ (d6 : D) (τ6 : Heap), Acc 5 1 σ (acc.length + 1) (encY acc ++ [.int .u8 65]) d6 τ6 → Acc 5 1 σ (acc ++ [kindU b]).length (encY (acc ++ [kindU b])) d6 τ6 := fun d6 τ6 h => by
          rw [List.length_append, encY, List.map_append, List.map_singleton, hv]
          exact h
        by_cases hnil : acc = []
        · have hl0 : acc.length = 0 := by rw [hnil]; rfl
          have c0 : ((acc.length : Int) == 0) = true := by rw [hl0]; rfl
          have hS2 : shpS acc b = acc ++ [kindU b] := by rw [hS, hnil]; rfl
          rw [hS2] at hp
          simp -dsimp only [h8, h7, h0, ho, hacl, q1, c0, bs49, exitR_exit, gate, decide_true, decide_false, Bool.not_true, Bool.not_false, bTT, bTF, bFT, bFF, ↓preB, postB, genB, ↓reduceIte, Nat.reduceEqDiff, Int.reduceToNat, Int.reduceLE, Int.reduceLT, Nat.reduceAdd, Nat.reduceLeDiff, intBin, strBin, unD, extractD, lit1, lit2, lit3, keptD, boxR, D.one, D.pub1, D.cells, splice, cutOwn]
          intro _
          rw [← ho]
          refine hA.append hcl tz49 rfl tz5 rfl rfl rfl (by decide) (by rw [hacl]; simp) (fedBy_sl (m := 1) tz49 rfl rfl) (by simp only []; omega) (by simp only [big]; omega) fun d6 τ6 hA6 => ?_
          simp -dsimp only [h8, h7, h0, ho, hacl, q1, wk, exitR_exit, gate, decide_true, decide_false, Bool.not_true, Bool.not_false, bTT, bTF, bFT, bFF, ↓preB, postB, genB, ↓reduceIte, Nat.reduceEqDiff, Int.reduceToNat, Int.reduceLE, Int.reduceLT, Nat.reduceAdd, Nat.reduceLeDiff, intBin, strBin, unD, extractD, lit1, lit2, lit3, keptD, boxR, D.one, D.pub1, D.cells, splice, cutOwn]
          exact ⟨(k + 1, acc ++ [kindU b]), ⟨by simp only []; omega, hp, by simp only [List.length_append, List.length_cons, List.length_nil]; omega, fin _ _ hA6, rfl⟩, by simp only []; omega⟩
        · have hl0 : 0 < acc.length := List.length_pos_iff.2 hnil
          have c0 : ((acc.length : Int) == 0) = false := by simp only [beq_eq_false_iff_ne, ne_eq]; omega
          have w1 : IntKind.i64.wrap ((acc.length : Int) - 1) = ((acc.length - 1 : Nat) : Int) := by rw [wrap64_in (by omega) (by omega)]; omega
          have hlast : (encY acc)[acc.length - 1]? = some (.int .u8 ((acc[acc.length - 1]'(by omega)).toNat : Int)) := by
                    rw [encY, List.getElem?_map, List.getElem?_eq_getElem (show acc.length - 1 < acc.length by omega)]
                    rfl
          have hgl : acc.getLast? = some (acc[acc.length - 1]'(by omega)) := by rw [List.getLast?_eq_getElem?, List.getElem?_eq_getElem]
          have hx1 : ((acc.length - 1 : Nat) : Int) < (acc.length : Int) := by omega
          have hx2 : acc.length - 1 < acc.length := by omega
          rw [hgl] at hS
          generalize acc[acc.length - 1]'(by omega) = y at hlast hS
          by_cases e : y = kindU b
          · have hS2 : shpS acc b = acc := by rw [hS, if_pos (by rw [e])]
            rw [hS2] at hp
            have c1 : ((y.toNat : Int) != 65) = false := by rw [e, hv]; simp
            simp -dsimp only [h8, h7, h0, ho, hacl, q1, c0, w1, hlast, hx1, hx2, hl0, c1, wk, exitR_exit, gate, decide_true, decide_false, Bool.not_true, Bool.not_false, bTT, bTF, bFT, bFF, ↓preB, postB, genB, ↓reduceIte, Nat.reduceEqDiff, Int.reduceToNat, Int.reduceLE, Int.reduceLT, Nat.reduceAdd, Nat.reduceLeDiff, intBin, strBin, unD, extractD, lit1, lit2, lit3, keptD, boxR, D.one, D.pub1, D.cells, splice, cutOwn]
            intros
            exact ⟨(k + 1, acc), ⟨by simp only []; omega, hp, by simp only []; omega, by rw [← ho]; exact hA, rfl⟩, by simp only []; omega⟩
          · have hS2 : shpS acc b = acc ++ [kindU b] := by rw [hS, if_neg fun h => e (Option.some.inj h)]
            rw [hS2] at hp
            have c1 : ((y.toNat : Int) != 65) = true := by
              rw [← hv]
              simp only [bne_iff_ne, ne_eq]
              exact fun h => e (UInt8.toNat_inj.1 (by omega))
            simp -dsimp only [h8, h7, h0, ho, hacl, q1, c0, w1, hlast, hx1, hx2, hl0, c1, bs49, exitR_exit, gate, decide_true, decide_false, Bool.not_true, Bool.not_false, bTT, bTF, bFT, bFF, ↓preB, postB, genB, ↓reduceIte, Nat.reduceEqDiff, Int.reduceToNat, Int.reduceLE, Int.reduceLT, Nat.reduceAdd, Nat.reduceLeDiff, intBin, strBin, unD, extractD, lit1, lit2, lit3, keptD, boxR, D.one, D.pub1, D.cells, splice, cutOwn]
            intros
            rw [← ho]
            refine hA.append hcl tz49 rfl tz5 rfl rfl rfl (by decide) (by rw [hacl]; simp) (fedBy_sl (m := 1) tz49 rfl rfl) (by simp only []; omega) (by simp only [big]; omega) fun d6 τ6 hA6 => ?_
            simp -dsimp only [h8, h7, h0, ho, hacl, q1, wk, exitR_exit, gate, decide_true, decide_false, Bool.not_true, Bool.not_false, bTT, bTF, bFT, bFF, ↓preB, postB, genB, ↓reduceIte, Nat.reduceEqDiff, Int.reduceToNat, Int.reduceLE, Int.reduceLT, Nat.reduceAdd, Nat.reduceLeDiff, intBin, strBin, unD, extractD, lit1, lit2, lit3, keptD, boxR, D.one, D.pub1, D.cells, splice, cutOwn]
            exact ⟨(k + 1, acc ++ [kindU b]), ⟨by simp only []; omega, hp, by simp only [List.length_append, List.length_cons, List.length_nil]; omega, fin _ _ hA6, rfl⟩, by simp only []; omega⟩
    · have hn : ¬ (k : Int) < s.size := by omega
      rw [List.drop_of_length_le (by rw [hlen]; omega), List.foldl_nil] at hp
      simp -dsimp only [h8, h7, h0, hn, exitR_exit, ↓preB, postB, genB, ↓reduceIte, Nat.reduceEqDiff, Int.reduceToNat, Int.reduceLE, Int.reduceLT, Nat.reduceAdd, Nat.reduceLeDiff, intBin, strBin, unD, extractD, lit1, lit2, lit3, keptD, boxR, D.one, D.pub1, D.cells, splice, cutOwn]
      rw [hp]
      exact hA
  · rintro env τ hA
    obtain ⟨o, ho⟩ := hA.is
    have hA' := hA.le
    have e1 : (encY (shapeW s)).length = (shapeW s).length := by simp [encY]
    simp -dsimp only [ho, e1, bytes_encY, push_encY, Option.map_some, ↓preB, postB, genB, ↓reduceIte, Nat.reduceEqDiff, Int.reduceToNat, Int.reduceLE, Int.reduceLT, Nat.reduceAdd, Nat.reduceLeDiff, intBin, strBin, unD, extractD, lit1, lit2, lit3, keptD, boxR, D.one, D.pub1, D.cells, splice, cutOwn]
    exact Ret.isH hA' hcl rfl (.str _)
theorem ShapeR_c (s : ByteArray) (hs : s.size ≤ 1000000) : Fn Zs 13 [.str s] (.str ⟨(shapeW s).toArray⟩) := by
  refine fn_of (Z := Zs) ok13 fun σ hcl hbl => ?_
  simp -dsimp only [L13, ↓preB, postB, genB, ↓reduceIte, Nat.reduceEqDiff, Int.reduceToNat, Int.reduceLE, Int.reduceLT, Nat.reduceAdd, Nat.reduceLeDiff, intBin, strBin, unD, extractD, lit1, lit2, lit3, keptD, boxR, D.one, D.pub1, D.cells, splice, cutOwn]
  have hlen : s.data.toList.length = s.size := rfl
  have hall : (shapeW s).length ≤ s.size := by have := shp_len s.data.toList []; simpa [shapeW] using this
  refine pwp_loopJ 0 (fun e τ => Acc 5 1 σ (shapeW s).length (encY (shapeW s)) (e 3) τ) (fun (x : Nat × List UInt8) env τ => x.1 ≤ s.size ∧ shapeW s = (s.data.toList.drop x.1).foldl shpS x.2 ∧ x.2.length ≤ x.1 ∧ Acc 5 1 σ x.2.length (encY x.2) (env 3) τ ∧ env 4 = .int .i64 (x.1:Nat) ∧ env 0 = .str s) (fun x => s.size - x.1) (0, []) ?_ ?_ ?_
  · simp only [upd_apply, envOf_apply, Nat.reduceEqDiff, if_true, if_false]
    exact ⟨Nat.zero_le _, rfl, Nat.le_refl _, .nil (HLe.refl _), (by first | trivial | rfl | omega), (by first | trivial | rfl | omega)⟩
  · rintro ⟨k, acc⟩ env τ ⟨hk, hp, ha, hA, h4, h0⟩
    simp only [] at hk hp ha hA h4
    rcases Nat.lt_or_ge k s.size with hlt | hge
    · have hn : (k : Int) < s.size := by omega
      have hkl : k < s.data.toList.length := hlt
      have hb : byteAt s k = ((s.data.toList[k]).toNat : Int) := by
        unfold byteAt
        rw [List.getD_eq_getElem?_getD, List.getElem?_eq_getElem hkl]; rfl
      rw [List.drop_eq_getElem_cons hkl, List.foldl_cons] at hp
      generalize s.data.toList[k] = b at hb hp
      have wk : IntKind.i64.wrap ((k : Int) + 1) = ((k + 1 : Nat) : Int) := wrap64_succ (by simp only [big]; omega)
      have hku : kindU b = if isBigI (b.toNat : Int) = true then 65 else if isLetterI (b.toNat : Int) = true then 97 else if isDigitI (b.toNat : Int) = true then 57 else b := rfl
      have hS : shpS acc b = if acc.getLast? = some (kindU b) then acc else acc ++ [kindU b] := rfl
      have hacl : (encY acc).length = acc.length := by simp [encY]
      obtain ⟨o, ho⟩ := hA.is
      simp -dsimp only [h4, h0, hn, hlt, hb, exitR_exit, ↓preB, postB, genB, ↓reduceIte, Nat.reduceEqDiff, Int.reduceToNat, Int.reduceLE, Int.reduceLT, Nat.reduceAdd, Nat.reduceLeDiff, intBin, strBin, unD, extractD, lit1, lit2, lit3, keptD, boxR, D.one, D.pub1, D.cells, splice, cutOwn]
      intro _
      refine Fn.use (isCapR_c _) ?_
      cases q1 : isBigI (b.toNat : Int)
      · simp -dsimp only [h4, h0, ho, hacl, q1, exitR_exit, gate, decide_true, decide_false, Bool.not_true, Bool.not_false, bTT, bTF, bFT, bFF, ↓preB, postB, genB, ↓reduceIte, Nat.reduceEqDiff, Int.reduceToNat, Int.reduceLE, Int.reduceLT, Nat.reduceAdd, Nat.reduceLeDiff, intBin, strBin, unD, extractD, lit1, lit2, lit3, keptD, boxR, D.one, D.pub1, D.cells, splice, cutOwn]
        refine Fn.use (isLetterR_c _) ?_
        cases q2 : isLetterI (b.toNat : Int)
        · simp -dsimp only [h4, h0, ho, hacl, q1, q2, exitR_exit, gate, decide_true, decide_false, Bool.not_true, Bool.not_false, bTT, bTF, bFT, bFF, ↓preB, postB, genB, ↓reduceIte, Nat.reduceEqDiff, Int.reduceToNat, Int.reduceLE, Int.reduceLT, Nat.reduceAdd, Nat.reduceLeDiff, intBin, strBin, unD, extractD, lit1, lit2, lit3, keptD, boxR, D.one, D.pub1, D.cells, splice, cutOwn]
          refine Fn.use (isDigitR_c _) ?_
          cases q3 : isDigitI (b.toNat : Int)
          · have hv : ((kindU b).toNat : Int) = (b.toNat : Int) := by rw [hku, q1, q2, q3]; rfl
            have fin : ∀ (d6 : D) (τ6 : Heap), Acc 5 1 σ (acc.length + 1) (encY acc ++ [.int .u8 (b.toNat : Int)]) d6 τ6 → Acc 5 1 σ (acc ++ [kindU b]).length (encY (acc ++ [kindU b])) d6 τ6 := fun d6 τ6 h => by
              rw [List.length_append, encY, List.map_append, List.map_singleton, hv]
              exact h
            by_cases hnil : acc = []
            · have hl0 : acc.length = 0 := by rw [hnil]; rfl
              have c0 : ((acc.length : Int) == 0) = true := by rw [hl0]; rfl
              have hS2 : shpS acc b = acc ++ [kindU b] := by rw [hS, hnil]; rfl
              rw [hS2] at hp
              simp -dsimp only [h4, h0, ho, hacl, q1, q2, q3, c0, bs49, exitR_exit, gate, decide_true, decide_false, Bool.not_true, Bool.not_false, bTT, bTF, bFT, bFF, ↓preB, postB, genB, ↓reduceIte, Nat.reduceEqDiff, Int.reduceToNat, Int.reduceLE, Int.reduceLT, Nat.reduceAdd, Nat.reduceLeDiff, intBin, strBin, unD, extractD, lit1, lit2, lit3, keptD, boxR, D.one, D.pub1, D.cells, splice, cutOwn]
              intro _
              rw [← ho]
              refine hA.append hcl tz49 rfl tz5 rfl rfl rfl (by decide) (by rw [hacl]; simp) (fedBy_sl (m := 1) tz49 rfl rfl) (by simp only []; omega) (by simp only [big]; omega) fun d6 τ6 hA6 => ?_
              simp -dsimp only [h4, h0, ho, hacl, q1, q2, q3, wk, exitR_exit, gate, decide_true, decide_false, Bool.not_true, Bool.not_false, bTT, bTF, bFT, bFF, ↓preB, postB, genB, ↓reduceIte, Nat.reduceEqDiff, Int.reduceToNat, Int.reduceLE, Int.reduceLT, Nat.reduceAdd, Nat.reduceLeDiff, intBin, strBin, unD, extractD, lit1, lit2, lit3, keptD, boxR, D.one, D.pub1, D.cells, splice, cutOwn]
              exact ⟨(k + 1, acc ++ [kindU b]), ⟨by simp only []; omega, hp, by simp only [List.length_append, List.length_cons, List.length_nil]; omega, fin _ _ hA6, rfl⟩, by simp only []; omega⟩
            · have hl0 : 0 < acc.length := List.length_pos_iff.2 hnil
              have c0 : ((acc.length : Int) == 0) = false := by simp only [beq_eq_false_iff_ne, ne_eq]; omega
              have w1 : IntKind.i64.wrap ((acc.length : Int) - 1) = ((acc.length - 1 : Nat) : Int) := by rw [wrap64_in (by omega) (by omega)]; omega
              have hlast : (encY acc)[acc.length - 1]? = some (.int .u8 ((acc[acc.length - 1]'(by omega)).toNat : Int)) := by
                    rw [encY, List.getElem?_map, List.getElem?_eq_getElem (show acc.length - 1 < acc.length by omega)]
                    rfl
              have hgl : acc.getLast? = some (acc[acc.length - 1]'(by omega)) := by rw [List.getLast?_eq_getElem?, List.getElem?_eq_getElem]
              have hx1 : ((acc.length - 1 : Nat) : Int) < (acc.length : Int) := by omega
              have hx2 : acc.length - 1 < acc.length := by omega
              rw [hgl] at hS
              generalize acc[acc.length - 1]'(by omega) = y at hlast hS
              by_cases e : y = kindU b
              · have hS2 : shpS acc b = acc := by rw [hS, if_pos (by rw [e])]
                rw [hS2] at hp
                have c1 : ((y.toNat : Int) != (b.toNat : Int)) = false := by rw [e, hv]; simp
                simp -dsimp only [h4, h0, ho, hacl, q1, q2, q3, c0, w1, hlast, hx1, hx2, hl0, c1, wk, exitR_exit, gate, decide_true, decide_false, Bool.not_true, Bool.not_false, bTT, bTF, bFT, bFF, ↓preB, postB, genB, ↓reduceIte, Nat.reduceEqDiff, Int.reduceToNat, Int.reduceLE, Int.reduceLT, Nat.reduceAdd, Nat.reduceLeDiff, intBin, strBin, unD, extractD, lit1, lit2, lit3, keptD, boxR, D.one, D.pub1, D.cells, splice, cutOwn]
                intros
                exact ⟨(k + 1, acc), ⟨by simp only []; omega, hp, by simp only []; omega, by rw [← ho]; exact hA, rfl⟩, by simp only []; omega⟩
              · have hS2 : shpS acc b = acc ++ [kindU b] := by rw [hS, if_neg fun h => e (Option.some.inj h)]
                rw [hS2] at hp
                have c1 : ((y.toNat : Int) != (b.toNat : Int)) = true := by
                  rw [← hv]
                  simp only [bne_iff_ne, ne_eq]
                  exact fun h => e (UInt8.toNat_inj.1 (by omega))
                simp -dsimp only [h4, h0, ho, hacl, q1, q2, q3, c0, w1, hlast, hx1, hx2, hl0, c1, bs49, exitR_exit, gate, decide_true, decide_false, Bool.not_true, Bool.not_false, bTT, bTF, bFT, bFF, ↓preB, postB, genB, ↓reduceIte, Nat.reduceEqDiff, Int.reduceToNat, Int.reduceLE, Int.reduceLT, Nat.reduceAdd, Nat.reduceLeDiff, intBin, strBin, unD, extractD, lit1, lit2, lit3, keptD, boxR, D.one, D.pub1, D.cells, splice, cutOwn]
                intros
                rw [← ho]
                refine hA.append hcl tz49 rfl tz5 rfl rfl rfl (by decide) (by rw [hacl]; simp) (fedBy_sl (m := 1) tz49 rfl rfl) (by simp only []; omega) (by simp only [big]; omega) fun d6 τ6 hA6 => ?_
                simp -dsimp only [h4, h0, ho, hacl, q1, q2, q3, wk, exitR_exit, gate, decide_true, decide_false, Bool.not_true, Bool.not_false, bTT, bTF, bFT, bFF, ↓preB, postB, genB, ↓reduceIte, Nat.reduceEqDiff, Int.reduceToNat, Int.reduceLE, Int.reduceLT, Nat.reduceAdd, Nat.reduceLeDiff, intBin, strBin, unD, extractD, lit1, lit2, lit3, keptD, boxR, D.one, D.pub1, D.cells, splice, cutOwn]
                exact ⟨(k + 1, acc ++ [kindU b]), ⟨by simp only []; omega, hp, by simp only [List.length_append, List.length_cons, List.length_nil]; omega, fin _ _ hA6, rfl⟩, by simp only []; omega⟩
          · have hv : ((kindU b).toNat : Int) = 57 := by rw [hku, q1, q2, q3]; rfl
            have fin : ∀ (d6 : D) (τ6 : Heap), Acc 5 1 σ (acc.length + 1) (encY acc ++ [.int .u8 57]) d6 τ6 → Acc 5 1 σ (acc ++ [kindU b]).length (encY (acc ++ [kindU b])) d6 τ6 := fun d6 τ6 h => by
              rw [List.length_append, encY, List.map_append, List.map_singleton, hv]
              exact h
            by_cases hnil : acc = []
            · have hl0 : acc.length = 0 := by rw [hnil]; rfl
              have c0 : ((acc.length : Int) == 0) = true := by rw [hl0]; rfl
              have hS2 : shpS acc b = acc ++ [kindU b] := by rw [hS, hnil]; rfl
              rw [hS2] at hp
              simp -dsimp only [h4, h0, ho, hacl, q1, q2, q3, c0, bs49, exitR_exit, gate, decide_true, decide_false, Bool.not_true, Bool.not_false, bTT, bTF, bFT, bFF, ↓preB, postB, genB, ↓reduceIte, Nat.reduceEqDiff, Int.reduceToNat, Int.reduceLE, Int.reduceLT, Nat.reduceAdd, Nat.reduceLeDiff, intBin, strBin, unD, extractD, lit1, lit2, lit3, keptD, boxR, D.one, D.pub1, D.cells, splice, cutOwn]
              intro _
              rw [← ho]
              refine hA.append hcl tz49 rfl tz5 rfl rfl rfl (by decide) (by rw [hacl]; simp) (fedBy_sl (m := 1) tz49 rfl rfl) (by simp only []; omega) (by simp only [big]; omega) fun d6 τ6 hA6 => ?_
              simp -dsimp only [h4, h0, ho, hacl, q1, q2, q3, wk, exitR_exit, gate, decide_true, decide_false, Bool.not_true, Bool.not_false, bTT, bTF, bFT, bFF, ↓preB, postB, genB, ↓reduceIte, Nat.reduceEqDiff, Int.reduceToNat, Int.reduceLE, Int.reduceLT, Nat.reduceAdd, Nat.reduceLeDiff, intBin, strBin, unD, extractD, lit1, lit2, lit3, keptD, boxR, D.one, D.pub1, D.cells, splice, cutOwn]
              exact ⟨(k + 1, acc ++ [kindU b]), ⟨by simp only []; omega, hp, by simp only [List.length_append, List.length_cons, List.length_nil]; omega, fin _ _ hA6, rfl⟩, by simp only []; omega⟩
            · have hl0 : 0 < acc.length := List.length_pos_iff.2 hnil
              have c0 : ((acc.length : Int) == 0) = false := by simp only [beq_eq_false_iff_ne, ne_eq]; omega
              have w1 : IntKind.i64.wrap ((acc.length : Int) - 1) = ((acc.length - 1 : Nat) : Int) := by rw [wrap64_in (by omega) (by omega)]; omega
              have hlast : (encY acc)[acc.length - 1]? = some (.int .u8 ((acc[acc.length - 1]'(by omega)).toNat : Int)) := by
                    rw [encY, List.getElem?_map, List.getElem?_eq_getElem (show acc.length - 1 < acc.length by omega)]
                    rfl
              have hgl : acc.getLast? = some (acc[acc.length - 1]'(by omega)) := by rw [List.getLast?_eq_getElem?, List.getElem?_eq_getElem]
              have hx1 : ((acc.length - 1 : Nat) : Int) < (acc.length : Int) := by omega
              have hx2 : acc.length - 1 < acc.length := by omega
              rw [hgl] at hS
              generalize acc[acc.length - 1]'(by omega) = y at hlast hS
              by_cases e : y = kindU b
              · have hS2 : shpS acc b = acc := by rw [hS, if_pos (by rw [e])]
                rw [hS2] at hp
                have c1 : ((y.toNat : Int) != 57) = false := by rw [e, hv]; simp
                simp -dsimp only [h4, h0, ho, hacl, q1, q2, q3, c0, w1, hlast, hx1, hx2, hl0, c1, wk, exitR_exit, gate, decide_true, decide_false, Bool.not_true, Bool.not_false, bTT, bTF, bFT, bFF, ↓preB, postB, genB, ↓reduceIte, Nat.reduceEqDiff, Int.reduceToNat, Int.reduceLE, Int.reduceLT, Nat.reduceAdd, Nat.reduceLeDiff, intBin, strBin, unD, extractD, lit1, lit2, lit3, keptD, boxR, D.one, D.pub1, D.cells, splice, cutOwn]
                intros
                exact ⟨(k + 1, acc), ⟨by simp only []; omega, hp, by simp only []; omega, by rw [← ho]; exact hA, rfl⟩, by simp only []; omega⟩
              · have hS2 : shpS acc b = acc ++ [kindU b] := by rw [hS, if_neg fun h => e (Option.some.inj h)]
                rw [hS2] at hp
                have c1 : ((y.toNat : Int) != 57) = true := by
                  rw [← hv]
                  simp only [bne_iff_ne, ne_eq]
                  exact fun h => e (UInt8.toNat_inj.1 (by omega))
                simp -dsimp only [h4, h0, ho, hacl, q1, q2, q3, c0, w1, hlast, hx1, hx2, hl0, c1, bs49, exitR_exit, gate, decide_true, decide_false, Bool.not_true, Bool.not_false, bTT, bTF, bFT, bFF, ↓preB, postB, genB, ↓reduceIte, Nat.reduceEqDiff, Int.reduceToNat, Int.reduceLE, Int.reduceLT, Nat.reduceAdd, Nat.reduceLeDiff, intBin, strBin, unD, extractD, lit1, lit2, lit3, keptD, boxR, D.one, D.pub1, D.cells, splice, cutOwn]
                intros
                rw [← ho]
                refine hA.append hcl tz49 rfl tz5 rfl rfl rfl (by decide) (by rw [hacl]; simp) (fedBy_sl (m := 1) tz49 rfl rfl) (by simp only []; omega) (by simp only [big]; omega) fun d6 τ6 hA6 => ?_
                simp -dsimp only [h4, h0, ho, hacl, q1, q2, q3, wk, exitR_exit, gate, decide_true, decide_false, Bool.not_true, Bool.not_false, bTT, bTF, bFT, bFF, ↓preB, postB, genB, ↓reduceIte, Nat.reduceEqDiff, Int.reduceToNat, Int.reduceLE, Int.reduceLT, Nat.reduceAdd, Nat.reduceLeDiff, intBin, strBin, unD, extractD, lit1, lit2, lit3, keptD, boxR, D.one, D.pub1, D.cells, splice, cutOwn]
                exact ⟨(k + 1, acc ++ [kindU b]), ⟨by simp only []; omega, hp, by simp only [List.length_append, List.length_cons, List.length_nil]; omega, fin _ _ hA6, rfl⟩, by simp only []; omega⟩
        · have hv : ((kindU b).toNat : Int) = 97 := by rw [hku, q1, q2]; rfl
          have fin : ∀ (d6 : D) (τ6 : Heap), Acc 5 1 σ (acc.length + 1) (encY acc ++ [.int .u8 97]) d6 τ6 → Acc 5 1 σ (acc ++ [kindU b]).length (encY (acc ++ [kindU b])) d6 τ6 := fun d6 τ6 h => by
            rw [List.length_append, encY, List.map_append, List.map_singleton, hv]
            exact h
          by_cases hnil : acc = []
          · have hl0 : acc.length = 0 := by rw [hnil]; rfl
            have c0 : ((acc.length : Int) == 0) = true := by rw [hl0]; rfl
            have hS2 : shpS acc b = acc ++ [kindU b] := by rw [hS, hnil]; rfl
            rw [hS2] at hp
            simp -dsimp only [h4, h0, ho, hacl, q1, q2, c0, bs49, exitR_exit, gate, decide_true, decide_false, Bool.not_true, Bool.not_false, bTT, bTF, bFT, bFF, ↓preB, postB, genB, ↓reduceIte, Nat.reduceEqDiff, Int.reduceToNat, Int.reduceLE, Int.reduceLT, Nat.reduceAdd, Nat.reduceLeDiff, intBin, strBin, unD, extractD, lit1, lit2, lit3, keptD, boxR, D.one, D.pub1, D.cells, splice, cutOwn]
            intro _
            rw [← ho]
            refine hA.append hcl tz49 rfl tz5 rfl rfl rfl (by decide) (by rw [hacl]; simp) (fedBy_sl (m := 1) tz49 rfl rfl) (by simp only []; omega) (by simp only [big]; omega) fun d6 τ6 hA6 => ?_
            simp -dsimp only [h4, h0, ho, hacl, q1, q2, wk, exitR_exit, gate, decide_true, decide_false, Bool.not_true, Bool.not_false, bTT, bTF, bFT, bFF, ↓preB, postB, genB, ↓reduceIte, Nat.reduceEqDiff, Int.reduceToNat, Int.reduceLE, Int.reduceLT, Nat.reduceAdd, Nat.reduceLeDiff, intBin, strBin, unD, extractD, lit1, lit2, lit3, keptD, boxR, D.one, D.pub1, D.cells, splice, cutOwn]
            exact ⟨(k + 1, acc ++ [kindU b]), ⟨by simp only []; omega, hp, by simp only [List.length_append, List.length_cons, List.length_nil]; omega, fin _ _ hA6, rfl⟩, by simp only []; omega⟩
          · have hl0 : 0 < acc.length := List.length_pos_iff.2 hnil
            have c0 : ((acc.length : Int) == 0) = false := by simp only [beq_eq_false_iff_ne, ne_eq]; omega
            have w1 : IntKind.i64.wrap ((acc.length : Int) - 1) = ((acc.length - 1 : Nat) : Int) := by rw [wrap64_in (by omega) (by omega)]; omega
            have hlast : (encY acc)[acc.length - 1]? = some (.int .u8 ((acc[acc.length - 1]'(by omega)).toNat : Int)) := by
                    rw [encY, List.getElem?_map, List.getElem?_eq_getElem (show acc.length - 1 < acc.length by omega)]
                    rfl
            have hgl : acc.getLast? = some (acc[acc.length - 1]'(by omega)) := by rw [List.getLast?_eq_getElem?, List.getElem?_eq_getElem]
            have hx1 : ((acc.length - 1 : Nat) : Int) < (acc.length : Int) := by omega
            have hx2 : acc.length - 1 < acc.length := by omega
            rw [hgl] at hS
            generalize acc[acc.length - 1]'(by omega) = y at hlast hS
            by_cases e : y = kindU b
            · have hS2 : shpS acc b = acc := by rw [hS, if_pos (by rw [e])]
              rw [hS2] at hp
              have c1 : ((y.toNat : Int) != 97) = false := by rw [e, hv]; simp
              simp -dsimp only [h4, h0, ho, hacl, q1, q2, c0, w1, hlast, hx1, hx2, hl0, c1, wk, exitR_exit, gate, decide_true, decide_false, Bool.not_true, Bool.not_false, bTT, bTF, bFT, bFF, ↓preB, postB, genB, ↓reduceIte, Nat.reduceEqDiff, Int.reduceToNat, Int.reduceLE, Int.reduceLT, Nat.reduceAdd, Nat.reduceLeDiff, intBin, strBin, unD, extractD, lit1, lit2, lit3, keptD, boxR, D.one, D.pub1, D.cells, splice, cutOwn]
              intros
              exact ⟨(k + 1, acc), ⟨by simp only []; omega, hp, by simp only []; omega, by rw [← ho]; exact hA, rfl⟩, by simp only []; omega⟩
            · have hS2 : shpS acc b = acc ++ [kindU b] := by rw [hS, if_neg fun h => e (Option.some.inj h)]
              rw [hS2] at hp
              have c1 : ((y.toNat : Int) != 97) = true := by
                rw [← hv]
                simp only [bne_iff_ne, ne_eq]
                exact fun h => e (UInt8.toNat_inj.1 (by omega))
              simp -dsimp only [h4, h0, ho, hacl, q1, q2, c0, w1, hlast, hx1, hx2, hl0, c1, bs49, exitR_exit, gate, decide_true, decide_false, Bool.not_true, Bool.not_false, bTT, bTF, bFT, bFF, ↓preB, postB, genB, ↓reduceIte, Nat.reduceEqDiff, Int.reduceToNat, Int.reduceLE, Int.reduceLT, Nat.reduceAdd, Nat.reduceLeDiff, intBin, strBin, unD, extractD, lit1, lit2, lit3, keptD, boxR, D.one, D.pub1, D.cells, splice, cutOwn]
              intros
              rw [← ho]
              refine hA.append hcl tz49 rfl tz5 rfl rfl rfl (by decide) (by rw [hacl]; simp) (fedBy_sl (m := 1) tz49 rfl rfl) (by simp only []; omega) (by simp only [big]; omega) fun d6 τ6 hA6 => ?_
              simp -dsimp only [h4, h0, ho, hacl, q1, q2, wk, exitR_exit, gate, decide_true, decide_false, Bool.not_true, Bool.not_false, bTT, bTF, bFT, bFF, ↓preB, postB, genB, ↓reduceIte, Nat.reduceEqDiff, Int.reduceToNat, Int.reduceLE, Int.reduceLT, Nat.reduceAdd, Nat.reduceLeDiff, intBin, strBin, unD, extractD, lit1, lit2, lit3, keptD, boxR, D.one, D.pub1, D.cells, splice, cutOwn]
              exact ⟨(k + 1, acc ++ [kindU b]), ⟨by simp only []; omega, hp, by simp only [List.length_append, List.length_cons, List.length_nil]; omega, fin _ _ hA6, rfl⟩, by simp only []; omega⟩
      · have hv : ((kindU b).toNat : Int) = 65 := by rw [hku, q1]; rfl
        have fin : ∀ (d6 : D) (τ6 : Heap), Acc 5 1 σ (acc.length + 1) (encY acc ++ [.int .u8 65]) d6 τ6 → Acc 5 1 σ (acc ++ [kindU b]).length (encY (acc ++ [kindU b])) d6 τ6 := fun d6 τ6 h => by
          rw [List.length_append, encY, List.map_append, List.map_singleton, hv]
          exact h
        by_cases hnil : acc = []
        · have hl0 : acc.length = 0 := by rw [hnil]; rfl
          have c0 : ((acc.length : Int) == 0) = true := by rw [hl0]; rfl
          have hS2 : shpS acc b = acc ++ [kindU b] := by rw [hS, hnil]; rfl
          rw [hS2] at hp
          simp -dsimp only [h4, h0, ho, hacl, q1, c0, bs49, exitR_exit, gate, decide_true, decide_false, Bool.not_true, Bool.not_false, bTT, bTF, bFT, bFF, ↓preB, postB, genB, ↓reduceIte, Nat.reduceEqDiff, Int.reduceToNat, Int.reduceLE, Int.reduceLT, Nat.reduceAdd, Nat.reduceLeDiff, intBin, strBin, unD, extractD, lit1, lit2, lit3, keptD, boxR, D.one, D.pub1, D.cells, splice, cutOwn]
          intro _
          rw [← ho]
          refine hA.append hcl tz49 rfl tz5 rfl rfl rfl (by decide) (by rw [hacl]; simp) (fedBy_sl (m := 1) tz49 rfl rfl) (by simp only []; omega) (by simp only [big]; omega) fun d6 τ6 hA6 => ?_
          simp -dsimp only [h4, h0, ho, hacl, q1, wk, exitR_exit, gate, decide_true, decide_false, Bool.not_true, Bool.not_false, bTT, bTF, bFT, bFF, ↓preB, postB, genB, ↓reduceIte, Nat.reduceEqDiff, Int.reduceToNat, Int.reduceLE, Int.reduceLT, Nat.reduceAdd, Nat.reduceLeDiff, intBin, strBin, unD, extractD, lit1, lit2, lit3, keptD, boxR, D.one, D.pub1, D.cells, splice, cutOwn]
          exact ⟨(k + 1, acc ++ [kindU b]), ⟨by simp only []; omega, hp, by simp only [List.length_append, List.length_cons, List.length_nil]; omega, fin _ _ hA6, rfl⟩, by simp only []; omega⟩
        · have hl0 : 0 < acc.length := List.length_pos_iff.2 hnil
          have c0 : ((acc.length : Int) == 0) = false := by simp only [beq_eq_false_iff_ne, ne_eq]; omega
          have w1 : IntKind.i64.wrap ((acc.length : Int) - 1) = ((acc.length - 1 : Nat) : Int) := by rw [wrap64_in (by omega) (by omega)]; omega
          have hlast : (encY acc)[acc.length - 1]? = some (.int .u8 ((acc[acc.length - 1]'(by omega)).toNat : Int)) := by
                    rw [encY, List.getElem?_map, List.getElem?_eq_getElem (show acc.length - 1 < acc.length by omega)]
                    rfl
          have hgl : acc.getLast? = some (acc[acc.length - 1]'(by omega)) := by rw [List.getLast?_eq_getElem?, List.getElem?_eq_getElem]
          have hx1 : ((acc.length - 1 : Nat) : Int) < (acc.length : Int) := by omega
          have hx2 : acc.length - 1 < acc.length := by omega
          rw [hgl] at hS
          generalize acc[acc.length - 1]'(by omega) = y at hlast hS
          by_cases e : y = kindU b
          · have hS2 : shpS acc b = acc := by rw [hS, if_pos (by rw [e])]
            rw [hS2] at hp
            have c1 : ((y.toNat : Int) != 65) = false := by rw [e, hv]; simp
            simp -dsimp only [h4, h0, ho, hacl, q1, c0, w1, hlast, hx1, hx2, hl0, c1, wk, exitR_exit, gate, decide_true, decide_false, Bool.not_true, Bool.not_false, bTT, bTF, bFT, bFF, ↓preB, postB, genB, ↓reduceIte, Nat.reduceEqDiff, Int.reduceToNat, Int.reduceLE, Int.reduceLT, Nat.reduceAdd, Nat.reduceLeDiff, intBin, strBin, unD, extractD, lit1, lit2, lit3, keptD, boxR, D.one, D.pub1, D.cells, splice, cutOwn]
            intros
            exact ⟨(k + 1, acc), ⟨by simp only []; omega, hp, by simp only []; omega, by rw [← ho]; exact hA, rfl⟩, by simp only []; omega⟩
          · have hS2 : shpS acc b = acc ++ [kindU b] := by rw [hS, if_neg fun h => e (Option.some.inj h)]
            rw [hS2] at hp
            have c1 : ((y.toNat : Int) != 65) = true := by
              rw [← hv]
              simp only [bne_iff_ne, ne_eq]
              exact fun h => e (UInt8.toNat_inj.1 (by omega))
            simp -dsimp only [h4, h0, ho, hacl, q1, c0, w1, hlast, hx1, hx2, hl0, c1, bs49, exitR_exit, gate, decide_true, decide_false, Bool.not_true, Bool.not_false, bTT, bTF, bFT, bFF, ↓preB, postB, genB, ↓reduceIte, Nat.reduceEqDiff, Int.reduceToNat, Int.reduceLE, Int.reduceLT, Nat.reduceAdd, Nat.reduceLeDiff, intBin, strBin, unD, extractD, lit1, lit2, lit3, keptD, boxR, D.one, D.pub1, D.cells, splice, cutOwn]
            intros
            rw [← ho]
            refine hA.append hcl tz49 rfl tz5 rfl rfl rfl (by decide) (by rw [hacl]; simp) (fedBy_sl (m := 1) tz49 rfl rfl) (by simp only []; omega) (by simp only [big]; omega) fun d6 τ6 hA6 => ?_
            simp -dsimp only [h4, h0, ho, hacl, q1, wk, exitR_exit, gate, decide_true, decide_false, Bool.not_true, Bool.not_false, bTT, bTF, bFT, bFF, ↓preB, postB, genB, ↓reduceIte, Nat.reduceEqDiff, Int.reduceToNat, Int.reduceLE, Int.reduceLT, Nat.reduceAdd, Nat.reduceLeDiff, intBin, strBin, unD, extractD, lit1, lit2, lit3, keptD, boxR, D.one, D.pub1, D.cells, splice, cutOwn]
            exact ⟨(k + 1, acc ++ [kindU b]), ⟨by simp only []; omega, hp, by simp only [List.length_append, List.length_cons, List.length_nil]; omega, fin _ _ hA6, rfl⟩, by simp only []; omega⟩
    · have hn : ¬ (k : Int) < s.size := by omega
      rw [List.drop_of_length_le (by rw [hlen]; omega), List.foldl_nil] at hp
      simp -dsimp only [h4, h0, hn, exitR_exit, ↓preB, postB, genB, ↓reduceIte, Nat.reduceEqDiff, Int.reduceToNat, Int.reduceLE, Int.reduceLT, Nat.reduceAdd, Nat.reduceLeDiff, intBin, strBin, unD, extractD, lit1, lit2, lit3, keptD, boxR, D.one, D.pub1, D.cells, splice, cutOwn]
      rw [hp]
      exact fun _ => hA
  · rintro env τ hA
    obtain ⟨o, ho⟩ := hA.is
    have hA' := hA.le
    have e1 : (encY (shapeW s)).length = (shapeW s).length := by simp [encY]
    simp -dsimp only [ho, e1, bytes_encY, push_encY, Option.map_some, ↓preB, postB, genB, ↓reduceIte, Nat.reduceEqDiff, Int.reduceToNat, Int.reduceLE, Int.reduceLT, Nat.reduceAdd, Nat.reduceLeDiff, intBin, strBin, unD, extractD, lit1, lit2, lit3, keptD, boxR, D.one, D.pub1, D.cells, splice, cutOwn]
    exact Ret.isH hA' hcl rfl (.str _)
end Go.Proofs.YtapkbkniooleaaaDoor.Vs
