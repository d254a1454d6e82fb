import Derived.Test.YtapkbkniooleaaaDoorFoA
import Derived.Test.YtapkbkniooleaaaDoorRdF1
/- numbers of YtapkbkniooleaaaDoor -/
namespace Go.Proofs.YtapkbkniooleaaaDoor.Vs
set_option linter.unusedVariables false
set_option linter.unusedSimpArgs false
set_option maxRecDepth 100000
def digU (b : UInt8) : Bool := isDigitI (b.toNat : Int)
def digB (l : List UInt8) : Bool := decide (l ≠ []) && l.all digU
def grOK (i n : Nat) (g : List UInt8) : Bool := digB g && !(decide (0 < i) && decide (g.length ≠ 3)) && !(decide (i = 0) && (decide (1 < n) && decide (3 < g.length)))
def valL (l : List UInt8) : Nat := l.foldl (fun n b => 10 * n + (b.toNat - 48)) 0
def grpL (l : List UInt8) : List (List UInt8) := cutL 44 (headL 46 l)
def allL (l : List UInt8) : List UInt8 := (grpL l).flatten ++ tailL 46 l
def okN (l : List UInt8) : Bool := ((List.range (grpL l).length).all fun i => grOK i (grpL l).length ((grpL l).getD i [])) && !(decide (46 ∈ l) && !digB (tailL 46 l)) && decide ((allL l).length ≤ 15)
def encNum (l : List UInt8) : D := if okN l = true then .tup [.int .i64 (valL (allL l) : Nat), .int .i64 ((tailL 46 l).length : Nat), .bool true] else .tup [.int .i64 0, .int .i64 0, .bool false]
theorem digG_all (l : List UInt8) : ∀ k n, k = l.length - n → n ≤ l.length → (decide (digG (toB l) k n = l.length) = (l.drop n).all digU)
  | 0, n, h, hn => by
    have : n = l.length := by omega
    subst this
    rw [digG, List.drop_length]
    simp
  | k + 1, n, h, hn => by
    have hlt : n < l.length := by omega
    have hb : byteAt (toB l) n = ((l[n]).toNat : Int) := toB_at (List.drop_eq_getElem_cons hlt)
    rw [digG, toB_size, decide_eq_true hlt, Bool.true_and, hb, List.drop_eq_getElem_cons hlt, List.all_cons]
    have hd : isDigitI ((l[n]).toNat : Int) = digU l[n] := rfl
    rw [hd]
    cases digU l[n]
    · rw [if_neg (by decide), decide_eq_false (by omega), Bool.false_and]
    · rw [if_pos rfl, Bool.true_and]
      exact digG_all l k (n + 1) (by omega) (by omega)
theorem isDigits_c (l : List UInt8) (hl : l.length ≤ 1000000) : Fn Zs 22 [.str (toB l)] (.bool (digB l)) := by
  refine fn_of (Z := Zs) ok22 fun σ hcl hbl => ?_
  simp -dsimp only [L22, ↓preB, postB, genB, ↓reduceIte, Nat.reduceEqDiff, Int.reduceToNat, Int.reduceLE, Int.reduceLT, Nat.reduceAdd, Nat.reduceLeDiff, intBin, strBin, unD, extractD, lit1, lit2, lit3, keptD, boxR, D.one, D.pub1, D.cells, splice, cutOwn]
  have hsz := toB_size l
  have hd := digG_all l l.length 0 (by omega) (Nat.zero_le _)
  rw [List.drop_zero] at hd
  have hD := digits_c (toB l)
  have hw : digW (toB l) 0 = digG (toB l) l.length 0 := by unfold digW; rw [hsz]; rfl
  rw [hw] at hD
  unfold digB
  by_cases h0 : l = []
  · subst h0
    simp -dsimp only [show ((toB [] : ByteArray) == (⟨#[]⟩ : ByteArray)) = true from rfl, gate, decide_true, decide_false, Bool.not_true, Bool.not_false, bTT, bTF, bFT, bFF, ↓preB, postB, genB, ↓reduceIte, Nat.reduceEqDiff, Int.reduceToNat, Int.reduceLE, Int.reduceLT, Nat.reduceAdd, Nat.reduceLeDiff, intBin, strBin, unD, extractD, lit1, lit2, lit3, keptD, boxR, D.one, D.pub1, D.cells, splice, cutOwn]
    exact Ret.is rfl
  · have c0 : ((toB l : ByteArray) == (⟨#[]⟩ : ByteArray)) = false := by
      rw [show (⟨#[]⟩ : ByteArray) = toB [] from rfl, toB_beq]
      exact decide_eq_false h0
    rw [decide_eq_true h0, Bool.true_and, ← hd]
    simp -dsimp only [c0, gate, decide_true, decide_false, Bool.not_true, Bool.not_false, bTT, bTF, bFT, bFF, ↓preB, postB, genB, ↓reduceIte, Nat.reduceEqDiff, Int.reduceToNat, Int.reduceLE, Int.reduceLT, Nat.reduceAdd, Nat.reduceLeDiff, intBin, strBin, unD, extractD, lit1, lit2, lit3, keptD, boxR, D.one, D.pub1, D.cells, splice, cutOwn]
    refine Fn.use hD ?_
    simp -dsimp only [c0, hsz, gate, decide_true, decide_false, Bool.not_true, Bool.not_false, bTT, bTF, bFT, bFF, ↓preB, postB, genB, ↓reduceIte, Nat.reduceEqDiff, Int.reduceToNat, Int.reduceLE, Int.reduceLT, Nat.reduceAdd, Nat.reduceLeDiff, intBin, strBin, unD, extractD, lit1, lit2, lit3, keptD, boxR, D.one, D.pub1, D.cells, splice, cutOwn]
    intro _
    refine Ret.is ?_
    congr 1
    generalize digG (toB l) l.length 0 = x
    by_cases e : x = l.length
    · rw [decide_eq_true e, e]; simp
    · rw [decide_eq_false e]
      simp only [beq_eq_false_iff_ne, ne_eq]
      omega
theorem valL_lt : ∀ (l : List UInt8) (n : Nat), l.all digU = true → l.foldl (fun n b => 10 * n + (b.toNat - 48)) n < (n + 1) * 10 ^ l.length
  | [], n, _ => by simp
  | b :: l, n, h => by
    rw [List.all_cons, Bool.and_eq_true] at h
    have hb : b.toNat - 48 ≤ 9 := by
      have := h.1
      simp only [digU, isDigitI, Bool.and_eq_true, decide_eq_true_eq] at this
      omega
    have ih := valL_lt l (10 * n + (b.toNat - 48)) h.2
    rw [List.foldl_cons, List.length_cons, Nat.pow_succ]
    refine Nat.lt_of_lt_of_le ih ?_
    rw [Nat.mul_comm (10 ^ l.length) 10, ← Nat.mul_assoc]
    exact Nat.mul_le_mul_right _ (by omega)
theorem cutL_flat (b : UInt8) : ∀ l : List UInt8, (cutL b l).flatten.length ≤ l.length
  | [] => by simp [cutL]
  | c :: r => by
    have ih := cutL_flat b r
    rw [cutL]
    split
    · simp only [List.flatten_cons, List.nil_append, List.length_cons]
      omega
    · split
      · rename_i h t he
        rw [he] at ih
        simp only [List.flatten_cons, List.length_append, List.length_cons] at ih ⊢
        omega
      · simp
theorem Number_c (l : List UInt8) (hl : l.length ≤ 100000) : Fn Zs 8 [.str (toB l)] (encNum l) := by
  refine fn_of (Z := Zs) ok8 fun σ hcl hbl => ?_
  simp -dsimp only [L8, ↓preB, postB, genB, ↓reduceIte, Nat.reduceEqDiff, Int.reduceToNat, Int.reduceLE, Int.reduceLT, Nat.reduceAdd, Nat.reduceLeDiff, intBin, strBin, unD, extractD, lit1, lit2, lit3, keptD, boxR, D.one, D.pub1, D.cells, splice, cutOwn]
  have hCut := Cut_c l 46 hl
  have hh := headL_len 46 l
  have ht := tailL_len 46 l
  have hSp := Split1_c (toB (headL 46 l)) 44 (by rw [toB_size]; omega)
  have hcb : cutB 44 (toB (headL 46 l)) = (grpL l).map toB := by unfold cutB grpL; rw [toB_list]
  rw [hcb] at hSp
  have hg := cutL_pieces 44 _ (headL 46 l) (Nat.le_refl _)
  change (grpL l).length ≤ _ ∧ ∀ y ∈ grpL l, y.length ≤ _ at hg
  have hok : okN l = (((List.range (grpL l).length).all fun i => grOK i (grpL l).length ((grpL l).getD i [])) && !(decide (46 ∈ l) && !digB (tailL 46 l)) && decide (((grpL l).flatten ++ tailL 46 l).length ≤ 15)) := rfl
  have hen : encNum l = if okN l = true then .tup [.int .i64 (valL ((grpL l).flatten ++ tailL 46 l) : Nat), .int .i64 ((tailL 46 l).length : Nat), .bool true] else .tup [.int .i64 0, .int .i64 0, .bool false] := rfl
  have fl : (grpL l).flatten.length ≤ 100000 := by have := cutL_flat 44 (headL 46 l); change (grpL l).flatten.length ≤ _ at this; omega
  have hr0 : decide (46 ∈ l) = false → tailL 46 l = [] := fun h => (headL_not 46 (of_decide_eq_false h)).2
  rw [hen]
  have hdT := isDigits_c (tailL 46 l) (by omega)
  refine Fn.use hCut ?_
  simp -dsimp only [List.getElem?_cons_zero, List.getElem?_cons_succ, gate, decide_true, decide_false, Bool.not_true, Bool.not_false, bTT, bTF, bFT, bFF, ↓preB, postB, genB, ↓reduceIte, Nat.reduceEqDiff, Int.reduceToNat, Int.reduceLE, Int.reduceLT, Nat.reduceAdd, Nat.reduceLeDiff, intBin, strBin, unD, extractD, lit1, lit2, lit3, keptD, boxR, D.one, D.pub1, D.cells, splice, cutOwn]
  unfold encSS at hSp
  refine Fn.use hSp ?_
  generalize grpL l = gs at *
  generalize tailL 46 l = r at *
  generalize decide (46 ∈ l) = pt at *
  have fail : okN l = false → ∀ (K : Prop), Ret σ (fun d τ => d = (if okN l = true then D.tup [.int .i64 (valL (gs.flatten ++ r) : Nat), .int .i64 (r.length : Nat), .bool true] else .tup [.int .i64 0, .int .i64 0, .bool false]) ∧ τ = σ) (.tup [.int .i64 0, .int .i64 0, .bool false]) σ := fun h _ => Ret.is (by rw [h]; rfl)
  simp -dsimp only [List.getElem?_cons_zero, List.getElem?_cons_succ, gate, decide_true, decide_false, Bool.not_true, Bool.not_false, bTT, bTF, bFT, bFF, ↓preB, postB, genB, ↓reduceIte, Nat.reduceEqDiff, Int.reduceToNat, Int.reduceLE, Int.reduceLT, Nat.reduceAdd, Nat.reduceLeDiff, intBin, strBin, unD, extractD, lit1, lit2, lit3, keptD, boxR, D.one, D.pub1, D.cells, splice, cutOwn]
  intro _
  refine pwp_loopJ 0 (fun e τ => τ = σ ∧ ((List.range gs.length).all fun i => grOK i gs.length (gs.getD i [])) = true ∧ e 9 = .str (toB gs.flatten) ∧ e 7 = .bool pt ∧ e 6 = .str (toB r)) (fun i env τ => i ≤ gs.length ∧ τ = σ ∧ (∀ j, j < i → grOK j gs.length (gs.getD j []) = true) ∧ env 24 = .int .i64 (i:Nat) ∧ env 23 = .int .i64 gs.length ∧ env 22 = encSS (gs.map toB) ∧ env 8 = encSS (gs.map toB) ∧ env 9 = .str (toB (gs.take i).flatten) ∧ env 7 = .bool pt ∧ env 6 = .str (toB r)) (fun i => gs.length - i) 0 ?_ ?_ ?_
  · simp only [upd_apply, envOf_apply, Nat.reduceEqDiff, if_true, if_false, encSS, List.length_map]
    exact ⟨Nat.zero_le _, (by first | trivial | rfl | omega), fun j hj => absurd hj (Nat.not_lt_zero _), (by first | trivial | rfl | omega), (by first | trivial | rfl | omega), (by first | trivial | rfl | omega), (by first | trivial | rfl | omega), (by first | trivial | rfl | omega), (by first | trivial | rfl | omega), (by first | trivial | rfl | omega)⟩
  · rintro i env τ ⟨hi, rfl, hall, h24, h23, h22, h8, h9, h7, h6⟩
    rcases Nat.lt_or_ge i gs.length with hlt | hge
    · have hn : (i : Int) < gs.length := by omega
      have hx : (gs.map toB)[i]? = some (toB gs[i]) := by rw [List.getElem?_map, List.getElem?_eq_getElem hlt]; rfl
      have hgi := hg.2 _ (List.getElem_mem hlt)
      have hgd : gs.getD i [] = gs[i] := by rw [List.getD_eq_getElem?_getD, List.getElem?_eq_getElem hlt]; rfl
      have htk : (gs.take (i + 1)).flatten = (gs.take i).flatten ++ gs[i] := by rw [List.take_succ_eq_append_getElem hlt, List.flatten_append, List.flatten_cons, List.flatten_nil, List.append_nil]
      have hD := isDigits_c gs[i] (by omega)
      have bad : grOK i gs.length gs[i] = false → okN l = false := fun h => by
        rw [hok, List.all_eq_false.2 ⟨i, List.mem_range.2 hlt, by rw [hgd, h]; decide⟩]
        rfl
      have gd : grOK i gs.length gs[i] = (digB gs[i] && !(decide (0 < i) && decide (gs[i].length ≠ 3)) && !(decide (i = 0) && (decide (1 < gs.length) && decide (3 < gs[i].length)))) := rfl
      have good : grOK i gs.length gs[i] = true → ∀ j, j < i + 1 → grOK j gs.length (gs.getD j []) = true := fun h j hj => by
        by_cases e : j = i
        · subst e; rw [hgd]; exact h
        · exact hall j (by omega)
      have hsz := toB_size gs[i]
      have hml : (gs.map toB).length = gs.length := List.length_map ..
      have hp : 0 < gs.length := by omega
      have wi : IntKind.i64.wrap ((i : Int) + 1) = ((i + 1 : Nat) : Int) := wrap64_succ (by simp only [big]; omega)
      have hcat : toB (gs.take i).flatten ++ toB gs[i] = toB (gs.take (i + 1)).flatten := by rw [htk]; exact ba_ext' (by simp [toB])
      have hcsz : (toB (gs.take i).flatten).size + (toB gs[i]).size ≤ big := by
        have h1 : (gs.take (i + 1)).flatten.length ≤ gs.flatten.length := by
          have := congrArg (fun x => x.flatten.length) (List.take_append_drop (i + 1) gs)
          simp only [List.flatten_append, List.length_append] at this
          omega
        rw [htk, List.length_append] at h1
        rw [toB_size, toB_size]
        simp only [big]
        omega
      generalize gs[i] = g at *
      simp -dsimp only [h24, h23, h22, h8, h9, h7, h6, hn, hlt, hx, hp, hml, List.getElem?_map, encSS, exitR_ret, ↓preB, postB, genB, ↓reduceIte, Nat.reduceEqDiff, Int.reduceToNat, Int.reduceLE, Int.reduceLT, Nat.reduceAdd, Nat.reduceLeDiff, intBin, strBin, unD, extractD, lit1, lit2, lit3, keptD, boxR, D.one, D.pub1, D.cells, splice, cutOwn]
      refine Fn.use hD ?_
      have again : grOK i gs.length g = true → ∃ y, (y ≤ gs.length ∧ (∀ j, j < y → grOK j gs.length (gs.getD j []) = true) ∧ IntKind.i64.wrap ((i : Int) + 1) = ((y : Nat) : Int) ∧ toB (gs.take (i + 1)).flatten = toB (gs.take y).flatten) ∧ gs.length - y < gs.length - i := fun h => ⟨i + 1, ⟨by omega, good h, wi, rfl⟩, by omega⟩
      cases q1 : digB g
      · have hb := bad (by rw [gd, q1]; rfl)
        simp -dsimp only [h24, h23, h22, h8, h9, h7, h6, hn, hlt, hx, hp, hml, List.getElem?_map, encSS, exitR_ret, q1, gate, decide_true, decide_false, Bool.not_true, Bool.not_false, bTT, bTF, bFT, bFF, ↓preB, postB, genB, ↓reduceIte, Nat.reduceEqDiff, Int.reduceToNat, Int.reduceLE, Int.reduceLT, Nat.reduceAdd, Nat.reduceLeDiff, intBin, strBin, unD, extractD, lit1, lit2, lit3, keptD, boxR, D.one, D.pub1, D.cells, splice, cutOwn]
        exact fail hb True
      rw [q1, Bool.true_and] at gd
      by_cases i0 : i = 0
      · have c1 : ¬ (0 : Int) < (i : Int) := by omega
        have c2 : ((i : Int) == 0) = true := by rw [i0]; rfl
        rw [decide_eq_false (p := 0 < i) (by omega), decide_eq_true i0, Bool.false_and, Bool.not_false, Bool.true_and, Bool.true_and] at gd
        by_cases n1 : 1 < gs.length
        · have c3 : (1 : Int) < (gs.length : Int) := by omega
          rw [decide_eq_true n1, Bool.true_and] at gd
          by_cases g3 : 3 < g.length
          · have c4 : (3 : Int) < (g.length : Int) := by omega
            have hb := bad (by rw [gd, decide_eq_true g3]; rfl)
            simp -dsimp only [h24, h23, h22, h8, h9, h7, h6, hn, hlt, hx, hp, hml, List.getElem?_map, encSS, exitR_ret, q1, c1, c2, c3, c4, hsz, gate, decide_true, decide_false, Bool.not_true, Bool.not_false, bTT, bTF, bFT, bFF, ↓preB, postB, genB, ↓reduceIte, Nat.reduceEqDiff, Int.reduceToNat, Int.reduceLE, Int.reduceLT, Nat.reduceAdd, Nat.reduceLeDiff, intBin, strBin, unD, extractD, lit1, lit2, lit3, keptD, boxR, D.one, D.pub1, D.cells, splice, cutOwn]
            intros
            exact fail hb True
          · have c4 : ¬ (3 : Int) < (g.length : Int) := by omega
            have hgk : grOK i gs.length g = true := by rw [gd, decide_eq_false g3]; rfl
            simp -dsimp only [h24, h23, h22, h8, h9, h7, h6, hn, hlt, hx, hp, hml, List.getElem?_map, encSS, exitR_ret, q1, c1, c2, c3, c4, hsz, hcat, hcsz, gate, decide_true, decide_false, Bool.not_true, Bool.not_false, bTT, bTF, bFT, bFF, ↓preB, postB, genB, ↓reduceIte, Nat.reduceEqDiff, Int.reduceToNat, Int.reduceLE, Int.reduceLT, Nat.reduceAdd, Nat.reduceLeDiff, intBin, strBin, unD, extractD, lit1, lit2, lit3, keptD, boxR, D.one, D.pub1, D.cells, splice, cutOwn]
            intros
            exact ⟨by rw [← hsz]; exact hcsz, again hgk⟩
        · have c3 : ¬ (1 : Int) < (gs.length : Int) := by omega
          have hgk : grOK i gs.length g = true := by rw [gd, decide_eq_false n1]; rfl
          simp -dsimp only [h24, h23, h22, h8, h9, h7, h6, hn, hlt, hx, hp, hml, List.getElem?_map, encSS, exitR_ret, q1, c1, c2, c3, hsz, hcat, hcsz, gate, decide_true, decide_false, Bool.not_true, Bool.not_false, bTT, bTF, bFT, bFF, ↓preB, postB, genB, ↓reduceIte, Nat.reduceEqDiff, Int.reduceToNat, Int.reduceLE, Int.reduceLT, Nat.reduceAdd, Nat.reduceLeDiff, intBin, strBin, unD, extractD, lit1, lit2, lit3, keptD, boxR, D.one, D.pub1, D.cells, splice, cutOwn]
          intros
          exact ⟨by rw [← hsz]; exact hcsz, again hgk⟩
      · have c1 : (0 : Int) < (i : Int) := by omega
        have c2 : ((i : Int) == 0) = false := by simp only [beq_eq_false_iff_ne, ne_eq]; omega
        rw [decide_eq_true (p := 0 < i) (by omega), decide_eq_false i0, Bool.true_and, Bool.false_and, Bool.not_false, Bool.and_true] at gd
        by_cases g3 : g.length = 3
        · have c4 : ((g.length : Int) != 3) = false := by rw [g3]; rfl
          have hgk : grOK i gs.length g = true := by rw [gd, decide_eq_false (by simpa using g3)]; rfl
          simp -dsimp only [h24, h23, h22, h8, h9, h7, h6, hn, hlt, hx, hp, hml, List.getElem?_map, encSS, exitR_ret, q1, c1, c2, c4, hsz, hcat, hcsz, gate, decide_true, decide_false, Bool.not_true, Bool.not_false, bTT, bTF, bFT, bFF, ↓preB, postB, genB, ↓reduceIte, Nat.reduceEqDiff, Int.reduceToNat, Int.reduceLE, Int.reduceLT, Nat.reduceAdd, Nat.reduceLeDiff, intBin, strBin, unD, extractD, lit1, lit2, lit3, keptD, boxR, D.one, D.pub1, D.cells, splice, cutOwn]
          intros
          exact ⟨by rw [← hsz]; exact hcsz, again hgk⟩
        · have c4 : ((g.length : Int) != 3) = true := by simp only [bne_iff_ne, ne_eq]; omega
          have hb := bad (by rw [gd, decide_eq_true g3]; rfl)
          simp -dsimp only [h24, h23, h22, h8, h9, h7, h6, hn, hlt, hx, hp, hml, List.getElem?_map, encSS, exitR_ret, q1, c1, c2, c4, hsz, gate, decide_true, decide_false, Bool.not_true, Bool.not_false, bTT, bTF, bFT, bFF, ↓preB, postB, genB, ↓reduceIte, Nat.reduceEqDiff, Int.reduceToNat, Int.reduceLE, Int.reduceLT, Nat.reduceAdd, Nat.reduceLeDiff, intBin, strBin, unD, extractD, lit1, lit2, lit3, keptD, boxR, D.one, D.pub1, D.cells, splice, cutOwn]
          intros
          exact fail hb True
    · have hn : ¬ (i : Int) < gs.length := by omega
      have : i = gs.length := by omega
      subst this
      rw [List.take_length] at h9
      simp -dsimp only [h24, h23, h22, h8, h9, h7, h6, hn, exitR_exit, ↓preB, postB, genB, ↓reduceIte, Nat.reduceEqDiff, Int.reduceToNat, Int.reduceLE, Int.reduceLT, Nat.reduceAdd, Nat.reduceLeDiff, intBin, strBin, unD, extractD, lit1, lit2, lit3, keptD, boxR, D.one, D.pub1, D.cells, splice, cutOwn]
      exact List.all_eq_true.2 fun j hj => hall j (List.mem_range.1 hj)
  · rintro env τ ⟨rfl, hgs, h9, h7, h6⟩
    rw [hgs, Bool.true_and] at hok
    simp -dsimp only [h9, h7, h6, ↓preB, postB, genB, ↓reduceIte, Nat.reduceEqDiff, Int.reduceToNat, Int.reduceLE, Int.reduceLT, Nat.reduceAdd, Nat.reduceLeDiff, intBin, strBin, unD, extractD, lit1, lit2, lit3, keptD, boxR, D.one, D.pub1, D.cells, splice, cutOwn]
    have hsr := toB_size r
    have hrl : r.length ≤ 100000 := by omega
    have hcat : toB gs.flatten ++ toB r = toB (gs.flatten ++ r) := ba_ext' (by simp [toB])
    have hcsz : (toB gs.flatten).size + (toB r).size ≤ big := by rw [toB_size, toB_size]; simp only [big]; omega
    have hsa := toB_size (gs.flatten ++ r)
    have point : pt = true → digB r = false → okN l = false := fun h1 h2 => by rw [hok, h1, h2]; rfl
    have rest : (pt && !digB r) = false → okN l = decide ((gs.flatten ++ r).length ≤ 15) := fun h => by rw [hok, h]; rfl
    generalize hA : gs.flatten ++ r = A at *
    cases q : pt
    · have hrd : r.all digU = true := by rw [hr0 q]; rfl
      rw [q, Bool.false_and] at rest
      have hdg : A.all digU = true := by
        rw [← hA, List.all_append, Bool.and_eq_true]
        refine ⟨?_, hrd⟩
        rw [List.all_flatten, List.all_eq_true]
        intro g hg'
        obtain ⟨j, hj, rfl⟩ := List.getElem_of_mem hg'
        have h1 := (List.all_eq_true.1 hgs) j (List.mem_range.2 hj)
        have h2 : gs.getD j [] = gs[j] := by rw [List.getD_eq_getElem?_getD, List.getElem?_eq_getElem hj]; rfl
        rw [h2, grOK, Bool.and_eq_true, Bool.and_eq_true, digB, Bool.and_eq_true] at h1
        exact h1.1.1.2
      by_cases a15 : (15 : Int) < (A.length : Int)
      · have hb : okN l = false := by rw [rest rfl, decide_eq_false (by omega)]
        simp -dsimp only [h9, h7, h6, q, hcat, hsa, a15, gate, decide_true, decide_false, Bool.not_true, Bool.not_false, bTT, bTF, bFT, bFF, ↓preB, postB, genB, ↓reduceIte, Nat.reduceEqDiff, Int.reduceToNat, Int.reduceLE, Int.reduceLT, Nat.reduceAdd, Nat.reduceLeDiff, intBin, strBin, unD, extractD, lit1, lit2, lit3, keptD, boxR, D.one, D.pub1, D.cells, splice, cutOwn]
        refine ⟨hcsz, fun _ => ?_⟩
        exact fail hb True
      have hgd : okN l = true := by rw [rest rfl, decide_eq_true (by omega)]
      simp -dsimp only [h9, h7, h6, q, hcat, hsa, a15, gate, decide_true, decide_false, Bool.not_true, Bool.not_false, bTT, bTF, bFT, bFF, ↓preB, postB, genB, ↓reduceIte, Nat.reduceEqDiff, Int.reduceToNat, Int.reduceLE, Int.reduceLT, Nat.reduceAdd, Nat.reduceLeDiff, intBin, strBin, unD, extractD, lit1, lit2, lit3, keptD, boxR, D.one, D.pub1, D.cells, splice, cutOwn]
      refine ⟨hcsz, fun _ _ => ?_⟩
      refine pwp_loopJ 2 (fun e s => s = τ ∧ e 12 = .int .i64 (valL A : Nat) ∧ e 6 = .str (toB r)) (fun i e s => i ≤ A.length ∧ s = τ ∧ e 12 = .int .i64 (valL (A.take i) : Nat) ∧ e 73 = .int .i64 (i : Nat) ∧ e 72 = .int .i64 A.length ∧ e 9 = .str (toB A) ∧ e 6 = .str (toB r)) (fun i => A.length - i) 0 ?_ ?_ ?_
      · simp only [upd_apply, h6, hcat, hsa, Nat.reduceEqDiff, if_true, if_false]
        exact ⟨Nat.zero_le _, (by first | trivial | rfl | omega), rfl, (by first | trivial | rfl | omega), (by first | trivial | rfl | omega), (by first | trivial | rfl | omega), (by first | trivial | rfl | omega)⟩
      · clear h9 h7 h6
        rintro i e s ⟨hi, rfl, h12, h73, h72, h9, h6⟩
        rcases Nat.lt_or_ge i A.length with hlt | hge
        · have hn : (i : Int) < A.length := by omega
          have hb := toB_at (List.drop_eq_getElem_cons hlt)
          have hd := (List.all_eq_true.1 hdg) _ (List.getElem_mem hlt)
          have hv : valL (A.take (i + 1)) = 10 * valL (A.take i) + (A[i].toNat - 48) := by
            rw [List.take_succ_eq_append_getElem hlt, valL, List.foldl_append]
            rfl
          have hvl := valL_lt (A.take i) 0 (List.all_eq_true.2 fun x hx => (List.all_eq_true.1 hdg) x (List.mem_of_mem_take hx))
          rw [List.length_take, Nat.min_eq_left (Nat.le_of_lt hlt)] at hvl
          change valL (A.take i) < _ at hvl
          have hp : 10 ^ i ≤ 10 ^ 15 := Nat.pow_le_pow_right (by decide) (by omega)
          simp only [digU, isDigitI, Bool.and_eq_true, decide_eq_true_eq] at hd
          generalize A[i] = b at *
          generalize valL (A.take i) = n at *
          have w1 : IntKind.u8.wrap ((b.toNat : Int) - 48) = ((b.toNat - 48 : Nat) : Int) := by rw [wrap8_in (by omega) (by omega)]; omega
          have w2 : IntKind.i64.wrap ((b.toNat - 48 : Nat) : Int) = ((b.toNat - 48 : Nat) : Int) := wrap64_in (by omega) (by omega)
          have w3 : IntKind.i64.wrap (10 * (n : Int)) = ((10 * n : Nat) : Int) := by rw [wrap64_in (by omega) (by omega)]; omega
          have w4 : IntKind.i64.wrap (((10 * n : Nat) : Int) + ((b.toNat - 48 : Nat) : Int)) = ((10 * n + (b.toNat - 48) : Nat) : Int) := by rw [wrap64_in (by omega) (by omega)]; omega
          have wi : IntKind.i64.wrap ((i : Int) + 1) = ((i + 1 : Nat) : Int) := wrap64_succ (by simp only [big]; omega)
          simp -dsimp only [h12, h73, h72, h9, h6, hn, hlt, hb, hsa, w1, w2, w3, w4, exitR_exit, ↓preB, postB, genB, ↓reduceIte, Nat.reduceEqDiff, Int.reduceToNat, Int.reduceLE, Int.reduceLT, Nat.reduceAdd, Nat.reduceLeDiff, intBin, strBin, unD, extractD, lit1, lit2, lit3, keptD, boxR, D.one, D.pub1, D.cells, splice, cutOwn]
          exact ⟨i + 1, ⟨by omega, by rw [hv], wi⟩, by omega⟩
        · have hn : ¬ (i : Int) < A.length := by omega
          rw [List.take_of_length_le hge] at h12
          simp -dsimp only [h12, h73, h72, h9, h6, hn, exitR_exit, ↓preB, postB, genB, ↓reduceIte, Nat.reduceEqDiff, Int.reduceToNat, Int.reduceLE, Int.reduceLT, Nat.reduceAdd, Nat.reduceLeDiff, intBin, strBin, unD, extractD, lit1, lit2, lit3, keptD, boxR, D.one, D.pub1, D.cells, splice, cutOwn]
      · clear h9 h7 h6
        rintro e s ⟨rfl, h12, h6⟩
        rw [hgd, if_pos rfl]
        simp -dsimp only [h12, h6, hsr, ↓preB, postB, genB, ↓reduceIte, Nat.reduceEqDiff, Int.reduceToNat, Int.reduceLE, Int.reduceLT, Nat.reduceAdd, Nat.reduceLeDiff, intBin, strBin, unD, extractD, lit1, lit2, lit3, keptD, boxR, D.one, D.pub1, D.cells, splice, cutOwn]
        exact fun _ => Ret.is rfl
    · cases q2 : digB r
      · have hb := point q q2
        simp -dsimp only [h9, h7, h6, q, gate, decide_true, decide_false, Bool.not_true, Bool.not_false, bTT, bTF, bFT, bFF, ↓preB, postB, genB, ↓reduceIte, Nat.reduceEqDiff, Int.reduceToNat, Int.reduceLE, Int.reduceLT, Nat.reduceAdd, Nat.reduceLeDiff, intBin, strBin, unD, extractD, lit1, lit2, lit3, keptD, boxR, D.one, D.pub1, D.cells, splice, cutOwn]
        refine Fn.use hdT ?_
        simp -dsimp only [h9, h7, h6, q, q2, gate, decide_true, decide_false, Bool.not_true, Bool.not_false, bTT, bTF, bFT, bFF, ↓preB, postB, genB, ↓reduceIte, Nat.reduceEqDiff, Int.reduceToNat, Int.reduceLE, Int.reduceLT, Nat.reduceAdd, Nat.reduceLeDiff, intBin, strBin, unD, extractD, lit1, lit2, lit3, keptD, boxR, D.one, D.pub1, D.cells, splice, cutOwn]
        exact fail hb True
      · have hrd : r.all digU = true := by rw [digB, Bool.and_eq_true] at q2; exact q2.2
        simp -dsimp only [h9, h7, h6, q, gate, decide_true, decide_false, Bool.not_true, Bool.not_false, bTT, bTF, bFT, bFF, ↓preB, postB, genB, ↓reduceIte, Nat.reduceEqDiff, Int.reduceToNat, Int.reduceLE, Int.reduceLT, Nat.reduceAdd, Nat.reduceLeDiff, intBin, strBin, unD, extractD, lit1, lit2, lit3, keptD, boxR, D.one, D.pub1, D.cells, splice, cutOwn]
        refine Fn.use hdT ?_
        rw [q, q2, Bool.true_and, Bool.not_true] at rest
        have hdg : A.all digU = true := by
          rw [← hA, List.all_append, Bool.and_eq_true]
          refine ⟨?_, hrd⟩
          rw [List.all_flatten, List.all_eq_true]
          intro g hg'
          obtain ⟨j, hj, rfl⟩ := List.getElem_of_mem hg'
          have h1 := (List.all_eq_true.1 hgs) j (List.mem_range.2 hj)
          have h2 : gs.getD j [] = gs[j] := by rw [List.getD_eq_getElem?_getD, List.getElem?_eq_getElem hj]; rfl
          rw [h2, grOK, Bool.and_eq_true, Bool.and_eq_true, digB, Bool.and_eq_true] at h1
          exact h1.1.1.2
        by_cases a15 : (15 : Int) < (A.length : Int)
        · have hb : okN l = false := by rw [rest rfl, decide_eq_false (by omega)]
          simp -dsimp only [h9, h7, h6, q, q2, hcat, hsa, a15, gate, decide_true, decide_false, Bool.not_true, Bool.not_false, bTT, bTF, bFT, bFF, ↓preB, postB, genB, ↓reduceIte, Nat.reduceEqDiff, Int.reduceToNat, Int.reduceLE, Int.reduceLT, Nat.reduceAdd, Nat.reduceLeDiff, intBin, strBin, unD, extractD, lit1, lit2, lit3, keptD, boxR, D.one, D.pub1, D.cells, splice, cutOwn]
          refine ⟨hcsz, fun _ => ?_⟩
          exact fail hb True
        have hgd : okN l = true := by rw [rest rfl, decide_eq_true (by omega)]
        simp -dsimp only [h9, h7, h6, q, q2, hcat, hsa, a15, gate, decide_true, decide_false, Bool.not_true, Bool.not_false, bTT, bTF, bFT, bFF, ↓preB, postB, genB, ↓reduceIte, Nat.reduceEqDiff, Int.reduceToNat, Int.reduceLE, Int.reduceLT, Nat.reduceAdd, Nat.reduceLeDiff, intBin, strBin, unD, extractD, lit1, lit2, lit3, keptD, boxR, D.one, D.pub1, D.cells, splice, cutOwn]
        refine ⟨hcsz, fun _ _ => ?_⟩
        refine pwp_loopJ 2 (fun e s => s = τ ∧ e 12 = .int .i64 (valL A : Nat) ∧ e 6 = .str (toB r)) (fun i e s => i ≤ A.length ∧ s = τ ∧ e 12 = .int .i64 (valL (A.take i) : Nat) ∧ e 73 = .int .i64 (i : Nat) ∧ e 72 = .int .i64 A.length ∧ e 9 = .str (toB A) ∧ e 6 = .str (toB r)) (fun i => A.length - i) 0 ?_ ?_ ?_
        · simp only [upd_apply, h6, hcat, hsa, Nat.reduceEqDiff, if_true, if_false]
          exact ⟨Nat.zero_le _, (by first | trivial | rfl | omega), rfl, (by first | trivial | rfl | omega), (by first | trivial | rfl | omega), (by first | trivial | rfl | omega), (by first | trivial | rfl | omega)⟩
        · clear h9 h7 h6
          rintro i e s ⟨hi, rfl, h12, h73, h72, h9, h6⟩
          rcases Nat.lt_or_ge i A.length with hlt | hge
          · have hn : (i : Int) < A.length := by omega
            have hb := toB_at (List.drop_eq_getElem_cons hlt)
            have hd := (List.all_eq_true.1 hdg) _ (List.getElem_mem hlt)
            have hv : valL (A.take (i + 1)) = 10 * valL (A.take i) + (A[i].toNat - 48) := by
              rw [List.take_succ_eq_append_getElem hlt, valL, List.foldl_append]
              rfl
            have hvl := valL_lt (A.take i) 0 (List.all_eq_true.2 fun x hx => (List.all_eq_true.1 hdg) x (List.mem_of_mem_take hx))
            rw [List.length_take, Nat.min_eq_left (Nat.le_of_lt hlt)] at hvl
            change valL (A.take i) < _ at hvl
            have hp : 10 ^ i ≤ 10 ^ 15 := Nat.pow_le_pow_right (by decide) (by omega)
            simp only [digU, isDigitI, Bool.and_eq_true, decide_eq_true_eq] at hd
            generalize A[i] = b at *
            generalize valL (A.take i) = n at *
            have w1 : IntKind.u8.wrap ((b.toNat : Int) - 48) = ((b.toNat - 48 : Nat) : Int) := by rw [wrap8_in (by omega) (by omega)]; omega
            have w2 : IntKind.i64.wrap ((b.toNat - 48 : Nat) : Int) = ((b.toNat - 48 : Nat) : Int) := wrap64_in (by omega) (by omega)
            have w3 : IntKind.i64.wrap (10 * (n : Int)) = ((10 * n : Nat) : Int) := by rw [wrap64_in (by omega) (by omega)]; omega
            have w4 : IntKind.i64.wrap (((10 * n : Nat) : Int) + ((b.toNat - 48 : Nat) : Int)) = ((10 * n + (b.toNat - 48) : Nat) : Int) := by rw [wrap64_in (by omega) (by omega)]; omega
            have wi : IntKind.i64.wrap ((i : Int) + 1) = ((i + 1 : Nat) : Int) := wrap64_succ (by simp only [big]; omega)
            simp -dsimp only [h12, h73, h72, h9, h6, hn, hlt, hb, hsa, w1, w2, w3, w4, exitR_exit, ↓preB, postB, genB, ↓reduceIte, Nat.reduceEqDiff, Int.reduceToNat, Int.reduceLE, Int.reduceLT, Nat.reduceAdd, Nat.reduceLeDiff, intBin, strBin, unD, extractD, lit1, lit2, lit3, keptD, boxR, D.one, D.pub1, D.cells, splice, cutOwn]
            exact ⟨i + 1, ⟨by omega, by rw [hv], wi⟩, by omega⟩
          · have hn : ¬ (i : Int) < A.length := by omega
            rw [List.take_of_length_le hge] at h12
            simp -dsimp only [h12, h73, h72, h9, h6, hn, exitR_exit, ↓preB, postB, genB, ↓reduceIte, Nat.reduceEqDiff, Int.reduceToNat, Int.reduceLE, Int.reduceLT, Nat.reduceAdd, Nat.reduceLeDiff, intBin, strBin, unD, extractD, lit1, lit2, lit3, keptD, boxR, D.one, D.pub1, D.cells, splice, cutOwn]
        · clear h9 h7 h6
          rintro e s ⟨rfl, h12, h6⟩
          rw [hgd, if_pos rfl]
          simp -dsimp only [h12, h6, hsr, ↓preB, postB, genB, ↓reduceIte, Nat.reduceEqDiff, Int.reduceToNat, Int.reduceLE, Int.reduceLT, Nat.reduceAdd, Nat.reduceLeDiff, intBin, strBin, unD, extractD, lit1, lit2, lit3, keptD, boxR, D.one, D.pub1, D.cells, splice, cutOwn]
          exact fun _ => Ret.is rfl
end Go.Proofs.YtapkbkniooleaaaDoor.Vs

/- numbers of YtapkbkniooleaaaDoor -/
namespace Go.Proofs.YtapkbkniooleaaaDoor.Vs
set_option linter.unusedVariables false
set_option linter.unusedSimpArgs false
set_option maxRecDepth 100000
/-- What the reference asks of a group. -/
def grR (i n : Nat) (g : List UInt8) : Bool := decide (g ≠ []) && !(decide (0 < i) && decide (g.length ≠ 3)) && !(decide (i = 0) && (decide (1 < n) && decide (3 < g.length)))
theorem okN_eq (l : List UInt8) : okN l = (((List.range (grpL l).length).all fun i => grR i (grpL l).length ((grpL l).getD i [])) && !(decide (46 ∈ l) && decide (tailL 46 l = [])) && decide ((allL l).length ≤ 15) && (allL l).all digU) := by
  have h0 : decide (46 ∈ l) = false → tailL 46 l = [] := fun h => (headL_not 46 (of_decide_eq_false h)).2
  have hal : (allL l).all digU = ((grpL l).all (fun g => g.all digU) && (tailL 46 l).all digU) := by unfold allL; rw [List.all_append, List.all_flatten]
  unfold okN
  rw [hal]
  generalize grpL l = gs
  generalize tailL 46 l = r at *
  generalize decide (46 ∈ l) = pt at *
  generalize decide ((allL l).length ≤ 15) = c15
  have hg : ((List.range gs.length).all fun i => grOK i gs.length (gs.getD i [])) = (((List.range gs.length).all fun i => grR i gs.length (gs.getD i [])) && gs.all fun g => g.all digU) := by
    rw [Bool.eq_iff_iff, Bool.and_eq_true, List.all_eq_true, List.all_eq_true, List.all_eq_true]
    constructor
    · intro h
      refine ⟨fun i hi => ?_, fun g hg => ?_⟩
      · have := h i hi
        rw [grOK, digB] at this
        rw [grR]
        simp only [Bool.and_eq_true] at this ⊢
        exact ⟨⟨this.1.1.1, this.1.2⟩, this.2⟩
      · obtain ⟨i, hi, rfl⟩ := List.getElem_of_mem hg
        have := h i (List.mem_range.2 hi)
        rw [List.getD_eq_getElem?_getD, List.getElem?_eq_getElem hi, Option.getD_some, grOK, digB] at this
        simp only [Bool.and_eq_true] at this
        exact this.1.1.2
    · rintro ⟨h1, h2⟩ i hi
      have hi' := List.mem_range.1 hi
      have g1 := h1 i hi
      have g2 := h2 _ (List.getElem_mem hi')
      rw [List.getD_eq_getElem?_getD, List.getElem?_eq_getElem hi', Option.getD_some] at g1 ⊢
      rw [grR] at g1
      rw [grOK, digB]
      simp only [Bool.and_eq_true] at g1 ⊢
      exact ⟨⟨⟨g1.1.1, g2⟩, g1.1.2⟩, g1.2⟩
  rw [hg]
  generalize ((List.range gs.length).all fun i => grR i gs.length (gs.getD i [])) = X
  generalize (gs.all fun g => g.all digU) = Y
  unfold digB
  cases pt
  · rw [h0 rfl]
    cases X <;> cases Y <;> cases c15 <;> rfl
  · by_cases hr : r = []
    · subst hr
      cases X <;> cases Y <;> cases c15 <;> rfl
    · rw [decide_eq_true hr, decide_eq_false hr]
      cases X <;> cases Y <;> cases c15 <;> cases r.all digU <;> rfl
theorem head_at {l : List UInt8} {i : Nat} (h : i < l.length) (hb : l[i] = 46) (hn : 46 ∉ l.take i) : headL 46 l = l.take i ∧ tailL 46 l = l.drop (i + 1) ∧ 46 ∈ l := by
  have e : l = l.take i ++ 46 :: l.drop (i + 1) := by rw [← hb, ← List.drop_eq_getElem_cons h, List.take_append_drop]
  obtain ⟨h1, h2⟩ := headL_app 46 (l.drop (i + 1)) (l.take i) hn
  rw [← e] at h1 h2
  exact ⟨h1, h2, by rw [← hb]; exact List.getElem_mem h⟩
theorem NumberR_c (l : List UInt8) (hl : l.length ≤ 100000) : Fn Zs 9 [.str (toB l)] (encNum l) := by
  refine fn_of (Z := Zs) ok9 fun σ hcl hbl => ?_
  simp -dsimp only [L9, ↓preB, postB, genB, ↓reduceIte, Nat.reduceEqDiff, Int.reduceToNat, Int.reduceLE, Int.reduceLT, Nat.reduceAdd, Nat.reduceLeDiff, intBin, strBin, unD, extractD, lit1, lit2, lit3, keptD, boxR, D.one, D.pub1, D.cells, splice, cutOwn]
  have hsz := toB_size l
  have hh := headL_len 46 l
  have ht := tailL_len 46 l
  have fail : okN l = false → ∀ τ, HLe σ τ → Ret σ (fun d τ => d = encNum l ∧ τ = σ) (.tup [.int .i64 0, .int .i64 0, .bool false]) τ := fun h τ hle => by
    have : encNum l = .tup [.int .i64 0, .int .i64 0, .bool false] := by unfold encNum; rw [h]; rfl
    rw [this]
    exact Ret.isH hle hcl rfl (.tup _ fun d hd => by
      simp only [List.mem_cons, List.not_mem_nil, or_false] at hd
      rcases hd with rfl | rfl | rfl <;> constructor)
  refine pwp_loopJ 0 (fun e τ => τ = σ ∧ e 5 = .str (toB (headL 46 l)) ∧ e 6 = .str (toB (tailL 46 l)) ∧ e 7 = .bool (decide (46 ∈ l))) (fun (x : Nat × Bool) env τ => x.1 ≤ l.length + 1 ∧ τ = σ ∧ env 8 = .int .i64 (x.1:Nat) ∧ env 0 = .str (toB l) ∧ (if x.2 = true then env 5 = .str (toB (headL 46 l)) ∧ env 6 = .str (toB (tailL 46 l)) ∧ env 7 = .bool true ∧ 46 ∈ l else x.1 ≤ l.length ∧ env 5 = .str (toB l) ∧ env 6 = .str (toB []) ∧ env 7 = .bool false ∧ 46 ∉ l.take x.1)) (fun x => l.length + 2 - x.1) (0, false) ?_ ?_ ?_
  · simp only [upd_apply, envOf_apply, Nat.reduceEqDiff, if_true, if_false, Bool.false_eq_true]
    exact ⟨Nat.zero_le _, (by first | trivial | rfl | omega), (by first | trivial | rfl | omega), (by first | trivial | rfl | omega), Nat.zero_le _, (by first | trivial | rfl | omega), rfl, (by first | trivial | rfl | omega), by simp⟩
  · rintro ⟨i, f⟩ env τ ⟨hi, rfl, h8, h0, hf⟩
    simp only [] at hi h8 hf
    have wi : IntKind.i64.wrap ((i : Int) + 1) = ((i + 1 : Nat) : Int) := wrap64_succ (by simp only [big]; omega)
    cases f
    · simp only [Bool.false_eq_true, if_false] at hf
      obtain ⟨hil, h5, h6, h7, hno⟩ := hf
      rcases Nat.lt_or_ge i l.length with hlt | hge
      · have hn : (i : Int) < l.length := by omega
        have hby := toB_at (List.drop_eq_getElem_cons hlt)
        by_cases hb : l[i] = 46
        · have cb : (((l[i]).toNat : Int) == 46) = true := by rw [hb]; rfl
          obtain ⟨e1, e2, e3⟩ := head_at hlt hb hno
          have x1 : (toB l).extract 0 i = toB (headL 46 l) := by rw [toB_extract, List.drop_zero, e1]
          have x2 : (toB l).extract (i + 1) l.length = toB (tailL 46 l) := by rw [toB_extract, List.take_length, e2]
          have c1 : (0 : Int) ≤ (i : Int) ∧ (i : Int) ≤ l.length := ⟨by omega, by omega⟩
          have c2 : (0 : Int) ≤ ((i + 1 : Nat) : Int) ∧ ((i + 1 : Nat) : Int) ≤ l.length := ⟨by omega, by omega⟩
          simp -dsimp only [h8, h5, h6, h7, h0, hsz, hn, hlt, hby, cb, exitR_exit, gate, decide_true, decide_false, Bool.not_true, Bool.not_false, bTT, bTF, bFT, bFF, ↓preB, postB, genB, ↓reduceIte, Nat.reduceEqDiff, Int.reduceToNat, Int.reduceLE, Int.reduceLT, Nat.reduceAdd, Nat.reduceLeDiff, intBin, strBin, unD, extractD, lit1, lit2, lit3, keptD, boxR, D.one, D.pub1, D.cells, splice, cutOwn]
          intro _
          refine draw_s ?_
          simp -dsimp only [h8, h5, h6, h7, h0, hsz, hn, hlt, hby, cb, wi, c1, c2, x1, x2, exitR_exit, gate, decide_true, decide_false, Bool.not_true, Bool.not_false, bTT, bTF, bFT, bFF, ↓preB, postB, genB, ↓reduceIte, Nat.reduceEqDiff, Int.reduceToNat, Int.reduceLE, Int.reduceLT, Nat.reduceAdd, Nat.reduceLeDiff, intBin, strBin, unD, extractD, lit1, lit2, lit3, keptD, boxR, D.one, D.pub1, D.cells, splice, cutOwn]
          refine ⟨by omega, Int.le_refl _, (i + 1, true), ⟨by simp only []; omega, rfl, by rw [if_pos rfl]; exact e3⟩, by simp only []; omega⟩
        · have cb : (((l[i]).toNat : Int) == 46) = false := by
            simp only [beq_eq_false_iff_ne, ne_eq]
            exact fun e => hb (UInt8.toNat_inj.1 (by simp; omega))
          simp -dsimp only [h8, h5, h6, h7, h0, hsz, hn, hlt, hby, cb, wi, exitR_exit, gate, decide_true, decide_false, Bool.not_true, Bool.not_false, bTT, bTF, bFT, bFF, ↓preB, postB, genB, ↓reduceIte, Nat.reduceEqDiff, Int.reduceToNat, Int.reduceLE, Int.reduceLT, Nat.reduceAdd, Nat.reduceLeDiff, intBin, strBin, unD, extractD, lit1, lit2, lit3, keptD, boxR, D.one, D.pub1, D.cells, splice, cutOwn]
          intro _
          refine ⟨(i + 1, false), ⟨by simp only []; omega, rfl, ?_⟩, by simp only []; omega⟩
          simp only [Bool.false_eq_true, if_false]
          refine ⟨by omega, ?_⟩
          rw [List.take_succ_eq_append_getElem hlt]
          intro hm
          rcases List.mem_append.1 hm with k | k
          · exact hno k
          · exact hb (List.mem_singleton.1 k).symm
      · have hn : ¬ (i : Int) < l.length := by omega
        have : i = l.length := by omega
        subst this
        rw [List.take_length] at hno
        obtain ⟨e1, e2⟩ := headL_not 46 hno
        simp -dsimp only [h8, h5, h6, h7, h0, hsz, hn, exitR_exit, gate, decide_true, decide_false, Bool.not_true, Bool.not_false, bTT, bTF, bFT, bFF, ↓preB, postB, genB, ↓reduceIte, Nat.reduceEqDiff, Int.reduceToNat, Int.reduceLE, Int.reduceLT, Nat.reduceAdd, Nat.reduceLeDiff, intBin, strBin, unD, extractD, lit1, lit2, lit3, keptD, boxR, D.one, D.pub1, D.cells, splice, cutOwn]
        rw [e1, e2, decide_eq_false hno]
        exact fun _ => (by first | trivial | rfl | omega)
    · simp only [if_true] at hf
      obtain ⟨h5, h6, h7, hin⟩ := hf
      by_cases c1 : (i : Int) < l.length
      · simp -dsimp only [h8, h5, h6, h7, h0, hsz, c1, exitR_exit, gate, decide_true, decide_false, Bool.not_true, Bool.not_false, bTT, bTF, bFT, bFF, ↓preB, postB, genB, ↓reduceIte, Nat.reduceEqDiff, Int.reduceToNat, Int.reduceLE, Int.reduceLT, Nat.reduceAdd, Nat.reduceLeDiff, intBin, strBin, unD, extractD, lit1, lit2, lit3, keptD, boxR, D.one, D.pub1, D.cells, splice, cutOwn]
        rw [decide_eq_true hin]
        exact fun _ => (by first | trivial | rfl | omega)
      · simp -dsimp only [h8, h5, h6, h7, h0, hsz, c1, exitR_exit, gate, decide_true, decide_false, Bool.not_true, Bool.not_false, bTT, bTF, bFT, bFF, ↓preB, postB, genB, ↓reduceIte, Nat.reduceEqDiff, Int.reduceToNat, Int.reduceLE, Int.reduceLT, Nat.reduceAdd, Nat.reduceLeDiff, intBin, strBin, unD, extractD, lit1, lit2, lit3, keptD, boxR, D.one, D.pub1, D.cells, splice, cutOwn]
        rw [decide_eq_true hin]
        exact fun _ => (by first | trivial | rfl | omega)
  · rintro env τ ⟨rfl, h5, h6, h7⟩
    have hg := cutL_pieces 44 _ (headL 46 l) (Nat.le_refl _)
    change (grpL l).length ≤ _ ∧ ∀ y ∈ grpL l, y.length ≤ _ at hg
    have hok := okN_eq l
    have hen : encNum l = if okN l = true then .tup [.int .i64 (valL ((grpL l).flatten ++ tailL 46 l) : Nat), .int .i64 ((tailL 46 l).length : Nat), .bool true] else .tup [.int .i64 0, .int .i64 0, .bool false] := rfl
    have hgd : grpL l = cutL 44 (headL 46 l) := rfl
    rw [show allL l = (grpL l).flatten ++ tailL 46 l from rfl] at hok
    generalize okN l = ok at *
    generalize encNum l = en at *
    generalize grpL l = gs at *
    generalize headL 46 l = w at *
    generalize tailL 46 l = r at *
    generalize decide (46 ∈ l) = pt at *
    have hsw := toB_size w
    have hsr := toB_size r
    by_cases bad : pt = true ∧ r = []
    · obtain ⟨rfl, rfl⟩ := bad
      have hb : ok = false := by rw [hok]; simp
      simp -dsimp only [h5, h6, h7, show ((toB [] : ByteArray) == (⟨#[]⟩ : ByteArray)) = true from rfl, gate, decide_true, decide_false, Bool.not_true, Bool.not_false, bTT, bTF, bFT, bFF, ↓preB, postB, genB, ↓reduceIte, Nat.reduceEqDiff, Int.reduceToNat, Int.reduceLE, Int.reduceLT, Nat.reduceAdd, Nat.reduceLeDiff, intBin, strBin, unD, extractD, lit1, lit2, lit3, keptD, boxR, D.one, D.pub1, D.cells, splice, cutOwn]
      exact fail hb _ (HLe.refl _)
    have hok2 : ok = (((List.range gs.length).all fun i => grR i gs.length (gs.getD i [])) && decide ((gs.flatten ++ r).length ≤ 15) && (gs.flatten ++ r).all digU) := by
      rw [hok]
      cases pt
      · rw [Bool.false_and, Bool.not_false, Bool.and_true]
      · rw [decide_eq_false fun h => bad ⟨rfl, h⟩, Bool.true_and, Bool.not_false, Bool.and_true]
    have c0 : pt = true → ((toB r : ByteArray) == (⟨#[]⟩ : ByteArray)) = false := fun h => by
      rw [show (⟨#[]⟩ : ByteArray) = toB [] from rfl, toB_beq]
      exact decide_eq_false fun e => bad ⟨h, e⟩
    rw [hok2] at hen
    have fail' : ok = false → ∀ τ', HLe τ τ' → Ret τ (fun d τ_2 => d = en ∧ τ_2 = τ) (D.tup [D.int IntKind.i64 0, D.int IntKind.i64 0, D.bool false]) τ' := fail
    clear fail hok bad
    cases q : pt
    all_goals first | (simp -dsimp only [h5, h6, h7, q, c0 q, gate, decide_true, decide_false, Bool.not_true, Bool.not_false, bTT, bTF, bFT, bFF, ↓preB, postB, genB, ↓reduceIte, Nat.reduceEqDiff, Int.reduceToNat, Int.reduceLE, Int.reduceLT, Nat.reduceAdd, Nat.reduceLeDiff, intBin, strBin, unD, extractD, lit1, lit2, lit3, keptD, boxR, D.one, D.pub1, D.cells, splice, cutOwn]; done) | simp -dsimp only [h5, h6, h7, q, c0 q, gate, decide_true, decide_false, Bool.not_true, Bool.not_false, bTT, bTF, bFT, bFF, ↓preB, postB, genB, ↓reduceIte, Nat.reduceEqDiff, Int.reduceToNat, Int.reduceLE, Int.reduceLT, Nat.reduceAdd, Nat.reduceLeDiff, intBin, strBin, unD, extractD, lit1, lit2, lit3, keptD, boxR, D.one, D.pub1, D.cells, splice, cutOwn] | simp -dsimp only [h5, h6, h7, q, gate, decide_true, decide_false, Bool.not_true, Bool.not_false, bTT, bTF, bFT, bFF, ↓preB, postB, genB, ↓reduceIte, Nat.reduceEqDiff, Int.reduceToNat, Int.reduceLE, Int.reduceLT, Nat.reduceAdd, Nat.reduceLeDiff, intBin, strBin, unD, extractD, lit1, lit2, lit3, keptD, boxR, D.one, D.pub1, D.cells, splice, cutOwn]
    all_goals
      refine pwp_loopJ 2 (fun e s => Acc 9 1 τ gs.length (gs.map fun y => .str (toB y)) (e 9) s ∧ e 6 = .str (toB r)) (fun (x : Nat × Nat × List (List UInt8)) env s => ((x.1 ≤ w.length ∧ x.2.1 ≤ x.1 ∧ x.2.2 ++ cutL 44 (w.drop x.2.1) = cutL 44 w ∧ 44 ∉ (w.drop x.2.1).take (x.1 - x.2.1)) ∨ (x.1 = w.length + 1 ∧ x.2.2 = cutL 44 w ∧ x.2.1 ≤ w.length + 1)) ∧ x.2.2.length ≤ x.1 ∧ Acc 9 1 τ x.2.2.length (x.2.2.map fun y => .str (toB y)) (env 9) s ∧ env 10 = .int .i64 (x.2.1:Nat) ∧ env 11 = .int .i64 (x.1:Nat) ∧ env 5 = .str (toB w) ∧ env 6 = .str (toB r)) (fun x => w.length + 1 - x.1) (0, 0, []) ?_ ?_ ?_
      · simp only [upd_apply, envOf_apply, Nat.reduceEqDiff, if_true, if_false, h5, h6]
        exact ⟨.inl ⟨Nat.zero_le _, Nat.le_refl _, rfl, by simp⟩, Nat.zero_le _, Acc.nil (HLe.refl _), (by first | trivial | rfl | omega), (by first | trivial | rfl | omega), (by first | trivial | rfl | omega), (by first | trivial | rfl | omega)⟩
      · clear h5 h6 h7
        rintro ⟨i, at_, outs⟩ env s ⟨hI, hlo, hA, h10, h11, h5, h6⟩
        simp only at hI hlo hA h10 h11
        rcases Nat.lt_or_ge w.length i with hgt | hle
        · rcases hI with ⟨h2, _⟩ | ⟨h2, h3, h4⟩
          · omega
          have hn : ¬ ((i : Int) ≤ w.length) := by omega
          rw [h3, ← hgd] at hA
          simp -dsimp only [h10, h11, h5, h6, hsw, hn, exitR_exit, gate, decide_true, decide_false, Bool.not_true, Bool.not_false, bTT, bTF, bFT, bFF, ↓preB, postB, genB, ↓reduceIte, Nat.reduceEqDiff, Int.reduceToNat, Int.reduceLE, Int.reduceLT, Nat.reduceAdd, Nat.reduceLeDiff, intBin, strBin, unD, extractD, lit1, lit2, lit3, keptD, boxR, D.one, D.pub1, D.cells, splice, cutOwn]
          intro _
          exact hA
        · obtain ⟨h2, h3, h4, h5'⟩ := hI.resolve_right fun h => by omega
          have hn : (i : Int) ≤ w.length := by omega
          have hw := wrap64_succ (k := i) (by simp only [big]; omega)
          have ht44 : ((44 : UInt8).toNat : Int) = 44 := rfl
          by_cases he : i = w.length
          · have hc : ((i : Int) == (w.length : Int)) = true := by rw [he]; simp
            simp -dsimp only [h10, h11, h5, h6, hsw, hn, hc, exitR_exit, gate, decide_true, decide_false, Bool.not_true, Bool.not_false, bTT, bTF, bFT, bFF, ↓preB, postB, genB, ↓reduceIte, Nat.reduceEqDiff, Int.reduceToNat, Int.reduceLE, Int.reduceLT, Nat.reduceAdd, Nat.reduceLeDiff, intBin, strBin, unD, extractD, lit1, lit2, lit3, keptD, boxR, D.one, D.pub1, D.cells, splice, cutOwn]
            intro _ _
            refine ⟨by omega, ?_⟩
            refine hA.append hcl tz34 rfl tz9 rfl rfl rfl (by decide) (by simp) (fedBy_sl (m := 1) tz34 rfl (by simp)) (by simp only []; omega) (by simp only [big]; omega) fun d' s' hA' => ?_
            simp -dsimp only [h10, h11, h5, h6, hsw, exitR_exit, gate, decide_true, decide_false, Bool.not_true, Bool.not_false, bTT, bTF, bFT, bFF, ↓preB, postB, genB, ↓reduceIte, Nat.reduceEqDiff, Int.reduceToNat, Int.reduceLE, Int.reduceLT, Nat.reduceAdd, Nat.reduceLeDiff, intBin, strBin, unD, extractD, lit1, lit2, lit3, keptD, boxR, D.one, D.pub1, D.cells, splice, cutOwn]
            rw [toB_extract] at hA'
            have hx : w.drop at_ = (w.drop at_).take (i - at_) := by rw [List.take_of_length_le (by rw [List.length_drop]; omega)]
            rw [← hx] at h5'
            have hcut : cutL 44 (w.drop at_) = [(w.take i).drop at_] := by
              rw [cutL_head, if_neg h5', (headL_not 44 h5').1, he, List.take_length]
            refine ⟨(i + 1, i + 1, outs ++ [(w.take i).drop at_]), ⟨.inr ⟨by simp only [he], by rw [← hcut]; exact h4, by simp only [he]; omega⟩, by simp; omega, ?_, hw, hw⟩, by simp only []; omega⟩
            simpa using hA'
          · have hlt : i < w.length := by omega
            have hc : ((i : Int) == (w.length : Int)) = false := by simp only [beq_eq_false_iff_ne, ne_eq, Int.natCast_inj]; exact he
            have hd : w.drop i = w[i] :: w.drop (i + 1) := List.drop_eq_getElem_cons hlt
            have hby := toB_at hd
            by_cases hb : w[i] = 44
            · have hcb : (((w[i]).toNat : Int) == 44) = true := by rw [hb]; rfl
              simp -dsimp only [h10, h11, h5, h6, hsw, hn, hc, hlt, hby, hcb, exitR_exit, gate, decide_true, decide_false, Bool.not_true, Bool.not_false, bTT, bTF, bFT, bFF, ↓preB, postB, genB, ↓reduceIte, Nat.reduceEqDiff, Int.reduceToNat, Int.reduceLE, Int.reduceLT, Nat.reduceAdd, Nat.reduceLeDiff, intBin, strBin, unD, extractD, lit1, lit2, lit3, keptD, boxR, D.one, D.pub1, D.cells, splice, cutOwn]
              intro _ _
              refine ⟨by omega, ?_⟩
              refine hA.append hcl tz34 rfl tz9 rfl rfl rfl (by decide) (by simp) (fedBy_sl (m := 1) tz34 rfl (by simp)) (by simp only []; omega) (by simp only [big]; omega) fun d' s' hA' => ?_
              simp -dsimp only [h10, h11, h5, h6, hsw, exitR_exit, gate, decide_true, decide_false, Bool.not_true, Bool.not_false, bTT, bTF, bFT, bFF, ↓preB, postB, genB, ↓reduceIte, Nat.reduceEqDiff, Int.reduceToNat, Int.reduceLE, Int.reduceLT, Nat.reduceAdd, Nat.reduceLeDiff, intBin, strBin, unD, extractD, lit1, lit2, lit3, keptD, boxR, D.one, D.pub1, D.cells, splice, cutOwn]
              rw [toB_extract] at hA'
              have hsp : w.drop at_ = (w.take i).drop at_ ++ 44 :: w.drop (i + 1) := by
                rw [← hb, ← hd]
                have := congrArg (List.drop at_) (List.take_append_drop i w)
                rw [← this, List.drop_append_of_le_length (by rw [List.length_take]; omega)]
              have hno : 44 ∉ (w.take i).drop at_ := by rw [List.drop_take]; exact h5'
              obtain ⟨g1, g2⟩ := headL_app 44 (w.drop (i + 1)) _ hno
              refine ⟨(i + 1, i + 1, outs ++ [(w.take i).drop at_]), ⟨.inl ⟨by simp only []; omega, Nat.le_refl _, ?_, by simp⟩, by simp; omega, ?_, hw, hw⟩, by simp only []; omega⟩
              · rw [← h4, hsp, cutL_head 44 (_ ++ _), g1, g2, if_pos (by simp)]
                simp
              · simpa using hA'
            · have hcb : (((w[i]).toNat : Int) == 44) = false := by
                simp only [beq_eq_false_iff_ne, ne_eq]
                exact fun e => hb (UInt8.toNat_inj.1 (by simp; omega))
              simp -dsimp only [h10, h11, h5, h6, hsw, hn, hc, hlt, hby, hcb, exitR_exit, gate, decide_true, decide_false, Bool.not_true, Bool.not_false, bTT, bTF, bFT, bFF, ↓preB, postB, genB, ↓reduceIte, Nat.reduceEqDiff, Int.reduceToNat, Int.reduceLE, Int.reduceLT, Nat.reduceAdd, Nat.reduceLeDiff, intBin, strBin, unD, extractD, lit1, lit2, lit3, keptD, boxR, D.one, D.pub1, D.cells, splice, cutOwn]
              intro _ _
              refine ⟨(i + 1, at_, outs), ⟨.inl ⟨by simp only []; omega, by simp only []; omega, h4, ?_⟩, by simp only []; omega, hA, rfl, wrap64_succ (by simp only [big]; omega)⟩, by simp only []; omega⟩
              simp only []
              rw [← List.drop_take] at h5' ⊢
              rw [List.take_succ_eq_append_getElem hlt, List.drop_append_of_le_length (by rw [List.length_take]; omega)]
              intro hm
              rcases List.mem_append.1 hm with k | k
              · exact h5' k
              · exact hb (List.mem_singleton.1 k).symm
      · clear h5 h6 h7
        rintro env s ⟨hA, h6⟩
        obtain ⟨o, h9⟩ := hA.is
        have hle := hA.le
        have hml : (gs.map fun y => D.str (toB y)).length = gs.length := List.length_map ..
        simp -dsimp only [h9, h6, hml, ↓preB, postB, genB, ↓reduceIte, Nat.reduceEqDiff, Int.reduceToNat, Int.reduceLE, Int.reduceLT, Nat.reduceAdd, Nat.reduceLeDiff, intBin, strBin, unD, extractD, lit1, lit2, lit3, keptD, boxR, D.one, D.pub1, D.cells, splice, cutOwn]
        refine pwp_loopJ 4 (fun e s' => s' = s ∧ ((List.range gs.length).all fun i => grR i gs.length (gs.getD i [])) = true ∧ e 9 = .sl o gs.length (gs.map fun y => D.str (toB y)) ∧ e 6 = .str (toB r)) (fun i e s' => i ≤ gs.length ∧ s' = s ∧ (∀ j, j < i → grR j gs.length (gs.getD j []) = true) ∧ e 12 = .int .i64 (i : Nat) ∧ e 9 = .sl o gs.length (gs.map fun y => D.str (toB y)) ∧ e 6 = .str (toB r)) (fun i => gs.length - i) 0 ?_ ?_ ?_
        · simp only [upd_apply, envOf_apply, Nat.reduceEqDiff, if_true, if_false, h9, h6]
          exact ⟨Nat.zero_le _, (by first | trivial | rfl | omega), fun j hj => absurd hj (Nat.not_lt_zero _), (by first | trivial | rfl | omega), (by first | trivial | rfl | omega), (by first | trivial | rfl | omega)⟩
        · clear h9 h6 hA
          rintro i e s' ⟨hi, rfl, hall, h12, h9, h6⟩
          rcases Nat.lt_or_ge i gs.length with hlt | hge
          · have hn : (i : Int) < gs.length := by omega
            have hx : (gs.map fun y => D.str (toB y))[i]? = some (.str (toB gs[i])) := by rw [List.getElem?_map, List.getElem?_eq_getElem hlt]; rfl
            have hgi := hg.2 _ (List.getElem_mem hlt)
            have hgd' : gs.getD i [] = gs[i] := by rw [List.getD_eq_getElem?_getD, List.getElem?_eq_getElem hlt]; rfl
            have badg : grR i gs.length gs[i] = false → ok = false := fun h => by
              rw [hok2, List.all_eq_false.2 ⟨i, List.mem_range.2 hlt, by rw [hgd', h]; decide⟩]
              rfl
            have good : grR i gs.length gs[i] = true → ∀ j, j < i + 1 → grR j gs.length (gs.getD j []) = true := fun h j hj => by
              by_cases e : j = i
              · subst e; rw [hgd']; exact h
              · exact hall j (by omega)
            have hsg := toB_size gs[i]
            have hp : 0 < gs.length := by omega
            have wi : IntKind.i64.wrap ((i : Int) + 1) = ((i + 1 : Nat) : Int) := wrap64_succ (by simp only [big]; omega)
            generalize gs[i] = g at *
            have gd : grR i gs.length g = (decide (g ≠ []) && !(decide (0 < i) && decide (g.length ≠ 3)) && !(decide (i = 0) && (decide (1 < gs.length) && decide (3 < g.length)))) := rfl
            have again : grR i gs.length g = true → ∃ y, (y ≤ gs.length ∧ (∀ j, j < y → grR j gs.length (gs.getD j []) = true) ∧ IntKind.i64.wrap ((i : Int) + 1) = ((y : Nat) : Int)) ∧ gs.length - y < gs.length - i := fun h => ⟨i + 1, ⟨by omega, good h, wi⟩, by omega⟩
            by_cases g0 : g = []
            · subst g0
              have hb := badg (by rw [gd]; rfl)
              simp -dsimp only [h12, h9, h6, hn, hlt, hx, hp, hml, exitR_ret, exitR_exit, show ((toB [] : ByteArray) == (⟨#[]⟩ : ByteArray)) = true from rfl, gate, decide_true, decide_false, Bool.not_true, Bool.not_false, bTT, bTF, bFT, bFF, ↓preB, postB, genB, ↓reduceIte, Nat.reduceEqDiff, Int.reduceToNat, Int.reduceLE, Int.reduceLT, Nat.reduceAdd, Nat.reduceLeDiff, intBin, strBin, unD, extractD, lit1, lit2, lit3, keptD, boxR, D.one, D.pub1, D.cells, splice, cutOwn]
              intros
              exact fail' hb _ hle
            have cg : ((toB g : ByteArray) == (⟨#[]⟩ : ByteArray)) = false := by
              rw [show (⟨#[]⟩ : ByteArray) = toB [] from rfl, toB_beq]
              exact decide_eq_false g0
            rw [decide_eq_true g0, Bool.true_and] at gd
            by_cases i0 : i = 0
            · have c1 : ¬ (0 : Int) < (i : Int) := by omega
              have c2 : ((i : Int) == 0) = true := by rw [i0]; rfl
              rw [decide_eq_false (p := 0 < i) (by omega), decide_eq_true i0, Bool.false_and, Bool.not_false, Bool.true_and, Bool.true_and] at gd
              by_cases n1 : 1 < gs.length
              · have c3 : (1 : Int) < (gs.length : Int) := by omega
                rw [decide_eq_true n1, Bool.true_and] at gd
                by_cases g3 : 3 < g.length
                · have c4 : (3 : Int) < (g.length : Int) := by omega
                  have hb := badg (by rw [gd, decide_eq_true g3]; rfl)
                  simp -dsimp only [h12, h9, h6, hn, hlt, hx, hp, hml, exitR_ret, exitR_exit, cg, c1, c2, c3, c4, hsg, gate, decide_true, decide_false, Bool.not_true, Bool.not_false, bTT, bTF, bFT, bFF, ↓preB, postB, genB, ↓reduceIte, Nat.reduceEqDiff, Int.reduceToNat, Int.reduceLE, Int.reduceLT, Nat.reduceAdd, Nat.reduceLeDiff, intBin, strBin, unD, extractD, lit1, lit2, lit3, keptD, boxR, D.one, D.pub1, D.cells, splice, cutOwn]
                  intros
                  exact fail' hb _ hle
                · have c4 : ¬ (3 : Int) < (g.length : Int) := by omega
                  have hgk : grR i gs.length g = true := by rw [gd, decide_eq_false g3]; rfl
                  simp -dsimp only [h12, h9, h6, hn, hlt, hx, hp, hml, exitR_ret, exitR_exit, cg, c1, c2, c3, c4, hsg, gate, decide_true, decide_false, Bool.not_true, Bool.not_false, bTT, bTF, bFT, bFF, ↓preB, postB, genB, ↓reduceIte, Nat.reduceEqDiff, Int.reduceToNat, Int.reduceLE, Int.reduceLT, Nat.reduceAdd, Nat.reduceLeDiff, intBin, strBin, unD, extractD, lit1, lit2, lit3, keptD, boxR, D.one, D.pub1, D.cells, splice, cutOwn]
                  intros
                  exact again hgk
              · have c3 : ¬ (1 : Int) < (gs.length : Int) := by omega
                have hgk : grR i gs.length g = true := by rw [gd, decide_eq_false n1]; rfl
                simp -dsimp only [h12, h9, h6, hn, hlt, hx, hp, hml, exitR_ret, exitR_exit, cg, c1, c2, c3, hsg, gate, decide_true, decide_false, Bool.not_true, Bool.not_false, bTT, bTF, bFT, bFF, ↓preB, postB, genB, ↓reduceIte, Nat.reduceEqDiff, Int.reduceToNat, Int.reduceLE, Int.reduceLT, Nat.reduceAdd, Nat.reduceLeDiff, intBin, strBin, unD, extractD, lit1, lit2, lit3, keptD, boxR, D.one, D.pub1, D.cells, splice, cutOwn]
                intros
                exact again hgk
            · have c1 : (0 : Int) < (i : Int) := by omega
              have c2 : ((i : Int) == 0) = false := by simp only [beq_eq_false_iff_ne, ne_eq]; omega
              rw [decide_eq_true (p := 0 < i) (by omega), decide_eq_false i0, Bool.true_and, Bool.false_and, Bool.not_false, Bool.and_true] at gd
              by_cases g3 : g.length = 3
              · have c4 : ((g.length : Int) != 3) = false := by rw [g3]; rfl
                have hgk : grR i gs.length g = true := by rw [gd, decide_eq_false (by simpa using g3)]; rfl
                simp -dsimp only [h12, h9, h6, hn, hlt, hx, hp, hml, exitR_ret, exitR_exit, cg, c1, c2, c4, hsg, gate, decide_true, decide_false, Bool.not_true, Bool.not_false, bTT, bTF, bFT, bFF, ↓preB, postB, genB, ↓reduceIte, Nat.reduceEqDiff, Int.reduceToNat, Int.reduceLE, Int.reduceLT, Nat.reduceAdd, Nat.reduceLeDiff, intBin, strBin, unD, extractD, lit1, lit2, lit3, keptD, boxR, D.one, D.pub1, D.cells, splice, cutOwn]
                intros
                exact again hgk
              · have c4 : ((g.length : Int) != 3) = true := by simp only [bne_iff_ne, ne_eq]; omega
                have hb := badg (by rw [gd, decide_eq_true g3]; rfl)
                simp -dsimp only [h12, h9, h6, hn, hlt, hx, hp, hml, exitR_ret, exitR_exit, cg, c1, c2, c4, hsg, gate, decide_true, decide_false, Bool.not_true, Bool.not_false, bTT, bTF, bFT, bFF, ↓preB, postB, genB, ↓reduceIte, Nat.reduceEqDiff, Int.reduceToNat, Int.reduceLE, Int.reduceLT, Nat.reduceAdd, Nat.reduceLeDiff, intBin, strBin, unD, extractD, lit1, lit2, lit3, keptD, boxR, D.one, D.pub1, D.cells, splice, cutOwn]
                intros
                exact fail' hb _ hle
          · have hn : ¬ (i : Int) < gs.length := by omega
            have : i = gs.length := by omega
            subst this
            simp -dsimp only [h12, h9, h6, hn, hml, exitR_exit, gate, decide_true, decide_false, Bool.not_true, Bool.not_false, bTT, bTF, bFT, bFF, ↓preB, postB, genB, ↓reduceIte, Nat.reduceEqDiff, Int.reduceToNat, Int.reduceLE, Int.reduceLT, Nat.reduceAdd, Nat.reduceLeDiff, intBin, strBin, unD, extractD, lit1, lit2, lit3, keptD, boxR, D.one, D.pub1, D.cells, splice, cutOwn]
            intro _
            exact List.all_eq_true.2 fun j hj => hall j (List.mem_range.1 hj)
        · clear h9 h6 hA
          rintro e s' ⟨rfl, hgs, h9, h6⟩
          rw [hgs, Bool.true_and] at hok2 hen
          have wl : IntKind.i64.wrap ((gs.length : Int) - 1) = (gs.length : Int) - 1 := wrap64_in (by omega) (by omega)
          simp -dsimp only [h9, h6, hml, wl, ↓preB, postB, genB, ↓reduceIte, Nat.reduceEqDiff, Int.reduceToNat, Int.reduceLE, Int.reduceLT, Nat.reduceAdd, Nat.reduceLeDiff, intBin, strBin, unD, extractD, lit1, lit2, lit3, keptD, boxR, D.one, D.pub1, D.cells, splice, cutOwn]
          intro _
          have hfl : gs.flatten.length ≤ 100000 := by
            have := cutL_flat 44 w
            rw [← hgd] at this
            omega
          have hfd : ∀ k, (gs.drop k).flatten.length ≤ gs.flatten.length := fun k => by
            have := congrArg (fun x => x.flatten.length) (List.take_append_drop k gs)
            simp only [List.flatten_append, List.length_append] at this
            omega
          refine pwp_loopJ 6 (fun e s => s = s' ∧ e 13 = .str (toB (gs.flatten ++ r)) ∧ e 6 = .str (toB r)) (fun k e s => k ≤ gs.length ∧ s = s' ∧ e 14 = .int .i64 ((k : Int) - 1) ∧ e 13 = .str (toB ((gs.drop k).flatten ++ r)) ∧ e 9 = .sl o gs.length (gs.map fun y => D.str (toB y)) ∧ e 6 = .str (toB r)) (fun k => k) gs.length ?_ ?_ ?_
          · simp only [upd_apply, envOf_apply, Nat.reduceEqDiff, if_true, if_false, h9, h6, List.drop_length, List.flatten_nil, List.nil_append, wl]
            exact ⟨Nat.le_refl _, (by first | trivial | rfl | omega), (by first | trivial | rfl | omega), (by first | trivial | rfl | omega), (by first | trivial | rfl | omega), (by first | trivial | rfl | omega)⟩
          · clear h9 h6
            rintro k e s ⟨hk, rfl, h14, h13, h9, h6⟩
            cases k with
            | zero =>
              have hn : ¬ (0 : Int) ≤ ((0 : Nat) : Int) - 1 := by omega
              rw [List.drop_zero] at h13
              simp -dsimp only [h14, h13, h9, h6, hn, exitR_exit, gate, decide_true, decide_false, Bool.not_true, Bool.not_false, bTT, bTF, bFT, bFF, ↓preB, postB, genB, ↓reduceIte, Nat.reduceEqDiff, Int.reduceToNat, Int.reduceLE, Int.reduceLT, Nat.reduceAdd, Nat.reduceLeDiff, intBin, strBin, unD, extractD, lit1, lit2, lit3, keptD, boxR, D.one, D.pub1, D.cells, splice, cutOwn]
            | succ j =>
              have hlt : j < gs.length := by omega
              have h14' : e 14 = .int .i64 (j : Int) := by rw [h14]; congr 1; omega
              have hn : (0 : Int) ≤ (j : Int) := by omega
              have hn2 : (j : Int) < gs.length := by omega
              have hx : (gs.map fun y => D.str (toB y))[j]? = some (.str (toB gs[j])) := by rw [List.getElem?_map, List.getElem?_eq_getElem hlt]; rfl
              have hcat : toB gs[j] ++ toB ((gs.drop (j + 1)).flatten ++ r) = toB ((gs.drop j).flatten ++ r) := by
                have : (gs.drop j).flatten = gs[j] ++ (gs.drop (j + 1)).flatten := by rw [List.drop_eq_getElem_cons hlt, List.flatten_cons]
                rw [this, List.append_assoc]
                exact ba_ext' (by simp [toB])
              have h1 := hfd j
              have hcsz : (toB gs[j]).size + (toB ((gs.drop (j + 1)).flatten ++ r)).size ≤ big := by
                rw [toB_size, toB_size, List.length_append]
                rw [List.drop_eq_getElem_cons hlt, List.flatten_cons, List.length_append] at h1
                simp only [big]
                omega
              have wj : IntKind.i64.wrap ((j : Int) - 1) = (j : Int) - 1 := wrap64_in (by omega) (by omega)
              generalize gs[j] = g at *
              simp -dsimp only [h14', h13, h9, h6, hn, hn2, hlt, hx, hml, hcat, hcsz, wj, exitR_exit, gate, decide_true, decide_false, Bool.not_true, Bool.not_false, bTT, bTF, bFT, bFF, ↓preB, postB, genB, ↓reduceIte, Nat.reduceEqDiff, Int.reduceToNat, Int.reduceLE, Int.reduceLT, Nat.reduceAdd, Nat.reduceLeDiff, intBin, strBin, unD, extractD, lit1, lit2, lit3, keptD, boxR, D.one, D.pub1, D.cells, splice, cutOwn]
              exact ⟨by omega, j, ⟨by omega, rfl, rfl⟩, by omega⟩
          · clear h9 h6
            rintro e s ⟨rfl, h13, h6⟩
            generalize hA : gs.flatten ++ r = A at *
            have hsa := toB_size A
            by_cases a15 : (15 : Int) < (A.length : Int)
            · have hb : ok = false := by rw [hok2, decide_eq_false (by omega), Bool.false_and]
              simp -dsimp only [h13, h6, hsa, a15, gate, decide_true, decide_false, Bool.not_true, Bool.not_false, bTT, bTF, bFT, bFF, ↓preB, postB, genB, ↓reduceIte, Nat.reduceEqDiff, Int.reduceToNat, Int.reduceLE, Int.reduceLT, Nat.reduceAdd, Nat.reduceLeDiff, intBin, strBin, unD, extractD, lit1, lit2, lit3, keptD, boxR, D.one, D.pub1, D.cells, splice, cutOwn]
              intros
              exact fail' hb _ hle
            have hA15 : A.length ≤ 15 := by omega
            rw [decide_eq_true hA15, Bool.true_and] at hok2 hen
            simp -dsimp only [h13, h6, hsa, a15, gate, decide_true, decide_false, Bool.not_true, Bool.not_false, bTT, bTF, bFT, bFF, ↓preB, postB, genB, ↓reduceIte, Nat.reduceEqDiff, Int.reduceToNat, Int.reduceLE, Int.reduceLT, Nat.reduceAdd, Nat.reduceLeDiff, intBin, strBin, unD, extractD, lit1, lit2, lit3, keptD, boxR, D.one, D.pub1, D.cells, splice, cutOwn]
            intros
            refine pwp_loopJ 8 (fun e s' => s' = s ∧ A.all digU = true ∧ e 15 = .int .i64 (valL A : Nat) ∧ e 6 = .str (toB r)) (fun i e s' => i ≤ A.length ∧ s' = s ∧ (A.take i).all digU = true ∧ e 15 = .int .i64 (valL (A.take i) : Nat) ∧ e 16 = .int .i64 (i : Nat) ∧ e 13 = .str (toB A) ∧ e 6 = .str (toB r)) (fun i => A.length - i) 0 ?_ ?_ ?_
            · simp only [upd_apply, h13, h6, Nat.reduceEqDiff, if_true, if_false]
              exact ⟨Nat.zero_le _, (by first | trivial | rfl | omega), rfl, (by first | trivial | rfl | omega), (by first | trivial | rfl | omega), (by first | trivial | rfl | omega), (by first | trivial | rfl | omega)⟩
            · clear h13 h6
              rintro i e s' ⟨hi, rfl, hall, h15, h16, h13, h6⟩
              rcases Nat.lt_or_ge i A.length with hlt | hge
              · have hn : (i : Int) < A.length := by omega
                have hb := toB_at (List.drop_eq_getElem_cons hlt)
                have hv : valL (A.take (i + 1)) = 10 * valL (A.take i) + (A[i].toNat - 48) := by
                  rw [List.take_succ_eq_append_getElem hlt, valL, List.foldl_append]
                  rfl
                have hal : (A.take (i + 1)).all digU = digU A[i] := by
                  rw [List.take_succ_eq_append_getElem hlt, List.all_append, hall]
                  simp
                have hbad : digU A[i] = false → ok = false := fun h => by
                  rw [hok2]
                  exact List.all_eq_false.2 ⟨_, List.getElem_mem hlt, by rw [h]; decide⟩
                have hvl := valL_lt (A.take i) 0 hall
                rw [List.length_take, Nat.min_eq_left (Nat.le_of_lt hlt)] at hvl
                change valL (A.take i) < _ at hvl
                have hp : 10 ^ i ≤ 10 ^ 15 := Nat.pow_le_pow_right (by decide) (by omega)
                have hdd : digU A[i] = isDigitI (A[i].toNat : Int) := rfl
                generalize A[i] = b at *
                generalize valL (A.take i) = n at *
                simp -dsimp only [h15, h16, h13, h6, hn, hlt, hb, hsa, exitR_exit, exitR_ret, gate, decide_true, decide_false, Bool.not_true, Bool.not_false, bTT, bTF, bFT, bFF, ↓preB, postB, genB, ↓reduceIte, Nat.reduceEqDiff, Int.reduceToNat, Int.reduceLE, Int.reduceLT, Nat.reduceAdd, Nat.reduceLeDiff, intBin, strBin, unD, extractD, lit1, lit2, lit3, keptD, boxR, D.one, D.pub1, D.cells, splice, cutOwn]
                intro _
                refine Fn.use (isDigitR_c _) ?_
                cases q3 : isDigitI (b.toNat : Int)
                · simp -dsimp only [h15, h16, h13, h6, hn, hlt, hb, hsa, q3, exitR_exit, exitR_ret, gate, decide_true, decide_false, Bool.not_true, Bool.not_false, bTT, bTF, bFT, bFF, ↓preB, postB, genB, ↓reduceIte, Nat.reduceEqDiff, Int.reduceToNat, Int.reduceLE, Int.reduceLT, Nat.reduceAdd, Nat.reduceLeDiff, intBin, strBin, unD, extractD, lit1, lit2, lit3, keptD, boxR, D.one, D.pub1, D.cells, splice, cutOwn]
                  intros
                  exact fail' (hbad (hdd.trans q3)) _ hle
                · have hd := q3
                  simp only [isDigitI, Bool.and_eq_true, decide_eq_true_eq] at hd
                  have w1 : IntKind.u8.wrap ((b.toNat : Int) - 48) = ((b.toNat - 48 : Nat) : Int) := by rw [wrap8_in (by omega) (by omega)]; omega
                  have w2 : IntKind.i64.wrap ((b.toNat - 48 : Nat) : Int) = ((b.toNat - 48 : Nat) : Int) := wrap64_in (by omega) (by omega)
                  have w3 : IntKind.i64.wrap (10 * (n : Int)) = ((10 * n : Nat) : Int) := by rw [wrap64_in (by omega) (by omega)]; omega
                  have w4 : IntKind.i64.wrap (((10 * n : Nat) : Int) + ((b.toNat - 48 : Nat) : Int)) = ((10 * n + (b.toNat - 48) : Nat) : Int) := by rw [wrap64_in (by omega) (by omega)]; omega
                  have wi : IntKind.i64.wrap ((i : Int) + 1) = ((i + 1 : Nat) : Int) := wrap64_succ (by simp only [big]; omega)
                  simp -dsimp only [h15, h16, h13, h6, hn, hlt, hb, hsa, q3, w1, w2, w3, w4, exitR_exit, exitR_ret, gate, decide_true, decide_false, Bool.not_true, Bool.not_false, bTT, bTF, bFT, bFF, ↓preB, postB, genB, ↓reduceIte, Nat.reduceEqDiff, Int.reduceToNat, Int.reduceLE, Int.reduceLT, Nat.reduceAdd, Nat.reduceLeDiff, intBin, strBin, unD, extractD, lit1, lit2, lit3, keptD, boxR, D.one, D.pub1, D.cells, splice, cutOwn]
                  intros
                  exact ⟨i + 1, ⟨by omega, by rw [hal, hdd, q3], by rw [hv], wi⟩, by omega⟩
              · have hn : ¬ (i : Int) < A.length := by omega
                rw [List.take_of_length_le hge] at h15 hall
                simp -dsimp only [h15, h16, h13, h6, hn, hsa, exitR_exit, gate, decide_true, decide_false, Bool.not_true, Bool.not_false, bTT, bTF, bFT, bFF, ↓preB, postB, genB, ↓reduceIte, Nat.reduceEqDiff, Int.reduceToNat, Int.reduceLE, Int.reduceLT, Nat.reduceAdd, Nat.reduceLeDiff, intBin, strBin, unD, extractD, lit1, lit2, lit3, keptD, boxR, D.one, D.pub1, D.cells, splice, cutOwn]
                intros
                exact hall
            · clear h13 h6
              rintro e s' ⟨rfl, hall, h15, h6⟩
              rw [hall, if_pos rfl] at hen
              simp -dsimp only [h15, h6, hsr, ↓preB, postB, genB, ↓reduceIte, Nat.reduceEqDiff, Int.reduceToNat, Int.reduceLE, Int.reduceLT, Nat.reduceAdd, Nat.reduceLeDiff, intBin, strBin, unD, extractD, lit1, lit2, lit3, keptD, boxR, D.one, D.pub1, D.cells, splice, cutOwn]
              intros
              rw [hen]
              exact Ret.isH hle hcl rfl (.tup _ fun d hd => by
                simp only [List.mem_cons, List.not_mem_nil, or_false] at hd
                rcases hd with rfl | rfl | rfl <;> constructor)
end Go.Proofs.YtapkbkniooleaaaDoor.Vs
