/- numbers of YtldlcejlfaogbaaGreatDoor -/
import Derived.Test.YtldlcejlfaogbaaGreatDoorTxA
import Derived.Test.YtldlcejlfaogbaaGreatDoorLawReadsA
import Derived.Test.YtldlcejlfaogbaaGreatDoorMgA
namespace Go.Proofs.YtldlcejlfaogbaaGreatDoor.Vs
set_option linter.unusedVariables false
set_option linter.unusedSimpArgs false
set_option maxRecDepth 100000
def brkW : Wd → Bool
  | [a, b] => (a == ⟨#[91]⟩) && (b == ⟨#[93]⟩)
  | _ => false
theorem brkW_len {w : Wd} (h : w.length ≠ 2) : brkW w = false := by
  unfold brkW
  split
  · exact absurd rfl h
  · rfl
theorem two_of {α : Type} {l : List α} (h : l.length = 2) : ∃ a b, l = [a, b] := by
  match l, h with
  | [a, b], _ => exact ⟨a, b, rfl⟩
def wordL (w : Wd) : List UInt8 := if w.length = 0 then [91, 93] else writL w
def rowTx (r : Sh) : List UInt8 := writL r.From ++ ([32, 61, 32] ++ (wordL r.To ++ [10]))
def textL (t : List Sh) : List UInt8 := t.flatMap rowTx
def brkR (r : Sh) : Bool := brkW r.From || brkW r.To
def longR (r : Sh) : Bool := decide (400 < (writL r.From).length) || decide (400 < (wordL r.To).length)
def textR (t : List Sh) : ByteArray × Int :=
  if badT t ≠ 0 then (⟨#[]⟩, badT t) else if t.any brkR = true then (⟨#[]⟩, 1) else if (t.any longR || decide (6000 < (textL t).length)) = true then (⟨#[]⟩, 3) else (toB (textL t), 0)
theorem writB_toB (w : Wd) : writB w = toB (writL w) := rfl
theorem good16 {w : Wd} (h : badW w = 0) : ∀ s ∈ w, s.size ≤ 16 := (badW_good h).2.1
theorem wordL_len {w : Wd} (h : badW w = 0) : (wordL w).length ≤ 1080 := by
  have h1 := badW_len h
  have h2 := writL_len (good16 h)
  unfold wordL
  split
  · simp
  · omega
theorem writL_len' {w : Wd} (h : badW w = 0) : (writL w).length ≤ 1080 := by
  have h1 := badW_len h
  have h2 := writL_len (good16 h)
  omega
theorem rowTx_len {r : Sh} (h1 : badW r.From = 0) (h2 : badW r.To = 0) : (rowTx r).length ≤ 2170 := by
  have := writL_len' h1
  have := wordL_len h2
  simp only [rowTx, List.length_append, List.length_cons, List.length_nil]
  omega
theorem textL_len : ∀ {t : List Sh}, (∀ r ∈ t, badW r.From = 0 ∧ badW r.To = 0) → (textL t).length ≤ 2170 * t.length
  | [], _ => by simp [textL]
  | r :: t, h => by
    have h1 := textL_len (t := t) fun x hx => h x (List.mem_cons_of_mem _ hx)
    have h2 := rowTx_len (h r (by simp)).1 (h r (by simp)).2
    simp only [textL, List.flatMap_cons, List.length_append, List.length_cons] at h1 ⊢
    omega
theorem textL_take {t : List Sh} {k : Nat} (h : k < t.length) : textL (t.take (k + 1)) = textL (t.take k) ++ rowTx t[k] := by
  show List.flatMap rowTx _ = List.flatMap rowTx _ ++ _
  rw [List.take_succ_eq_append_getElem h, List.flatMap_append, List.flatMap_singleton]
theorem brackets_c (w : Wd) : Fn Zs 72 [encSS w] (.bool (brkW w)) := by
  refine fn_of (Z := Zs) ok72 fun σ hcl hbl => ?_
  simp -dsimp only [L72, encSS, ↓preB, postB, genB, ↓reduceIte, Nat.reduceEqDiff, Int.reduceToNat, Int.reduceLE, Int.reduceLT, Nat.reduceAdd, Nat.reduceLeDiff, intBin, strBin, unD, extractD, lit1, lit2, lit3, keptD, boxR, D.one, D.pub1, D.cells, splice, cutOwn]
  by_cases h2 : w.length = 2
  · obtain ⟨a, b, rfl⟩ := two_of h2
    have e0 : ((([a, b] : Wd).length : Int) == 2) = true := rfl
    cases h3 : (a == (⟨#[91]⟩ : ByteArray)) <;> cases h4 : (b == (⟨#[93]⟩ : ByteArray)) <;>
    · have hr : brkW [a, b] = ((a == (⟨#[91]⟩ : ByteArray)) && (b == (⟨#[93]⟩ : ByteArray))) := rfl
      rw [h3, h4] at hr
      simp -dsimp only [encSS, h3, h4, List.length_cons, List.length_nil, List.map_cons, List.map_nil, gate, show (((2 : Nat) : Int) == 2) = true from rfl, show (true == true) = true from rfl, show (false == true) = false from rfl, ↓preB, postB, genB, ↓reduceIte, Nat.reduceEqDiff, Int.reduceToNat, Int.reduceLE, Int.reduceLT, Nat.reduceAdd, Nat.reduceLeDiff, intBin, strBin, unD, extractD, lit1, lit2, lit3, keptD, boxR, D.one, D.pub1, D.cells, splice, cutOwn]
      intros
      first | exact ⟨⟨by decide, by decide⟩, ⟨by decide, by decide⟩, Ret.is (by rw [hr]; rfl)⟩ | exact ⟨⟨by decide, by decide⟩, Ret.is (by rw [hr]; rfl)⟩
  · have e0 : ((w.length : Int) == 2) = false := by simp only [beq_eq_false_iff_ne, ne_eq]; omega
    simp -dsimp only [encSS, e0, gate, show (false == true) = false from rfl, ↓preB, postB, genB, ↓reduceIte, Nat.reduceEqDiff, Int.reduceToNat, Int.reduceLE, Int.reduceLT, Nat.reduceAdd, Nat.reduceLeDiff, intBin, strBin, unD, extractD, lit1, lit2, lit3, keptD, boxR, D.one, D.pub1, D.cells, splice, cutOwn]
    intros
    exact Ret.is (by rw [brkW_len h2])
theorem word_c' (w : Wd) (hw : badW w = 0) : Fn Zs 73 [encSS w] (.str (toB (wordL w))) := by
  refine fn_of (Z := Zs) ok73 fun σ hcl hbl => ?_
  simp -dsimp only [L73, encSS, ↓preB, postB, genB, ↓reduceIte, Nat.reduceEqDiff, Int.reduceToNat, Int.reduceLE, Int.reduceLT, Nat.reduceAdd, Nat.reduceLeDiff, intBin, strBin, unD, extractD, lit1, lit2, lit3, keptD, boxR, D.one, D.pub1, D.cells, splice, cutOwn]
  by_cases h0 : w.length = 0
  · have e0 : ((w.length : Int) == 0) = true := by rw [h0]; rfl
    simp -dsimp only [encSS, e0, ↓preB, postB, genB, ↓reduceIte, Nat.reduceEqDiff, Int.reduceToNat, Int.reduceLE, Int.reduceLT, Nat.reduceAdd, Nat.reduceLeDiff, intBin, strBin, unD, extractD, lit1, lit2, lit3, keptD, boxR, D.one, D.pub1, D.cells, splice, cutOwn]
    intros
    exact Ret.is (by rw [wordL, if_pos h0]; rfl)
  · have e0 : ((w.length : Int) == 0) = false := by simp only [beq_eq_false_iff_ne, ne_eq]; omega
    have h60 := badW_len hw
    simp -dsimp only [e0, ↓preB, postB, genB, ↓reduceIte, Nat.reduceEqDiff, Int.reduceToNat, Int.reduceLE, Int.reduceLT, Nat.reduceAdd, Nat.reduceLeDiff, intBin, strBin, unD, extractD, lit1, lit2, lit3, keptD, boxR, D.one, D.pub1, D.cells, splice, cutOwn]
    intros
    refine Fn.use (Written_c w (good16 hw) (by omega)) ?_
    simp -dsimp only [↓preB, postB, genB, ↓reduceIte, Nat.reduceEqDiff, Int.reduceToNat, Int.reduceLE, Int.reduceLT, Nat.reduceAdd, Nat.reduceLeDiff, intBin, strBin, unD, extractD, lit1, lit2, lit3, keptD, boxR, D.one, D.pub1, D.cells, splice, cutOwn]
    exact Ret.is (by rw [wordL, if_neg h0, writB_toB])
theorem refText_c (t : List Sh) : Fn Zs 28 [encT t] (.tup [.str (textR t).1, .int .i64 (textR t).2]) := by
  refine fn_of (Z := Zs) ok28 fun σ hcl hbl => ?_
  simp -dsimp only [L28, ↓preB, postB, genB, ↓reduceIte, Nat.reduceEqDiff, Int.reduceToNat, Int.reduceLE, Int.reduceLT, Nat.reduceAdd, Nat.reduceLeDiff, intBin, strBin, unD, extractD, lit1, lit2, lit3, keptD, boxR, D.one, D.pub1, D.cells, splice, cutOwn]
  refine Fn.use (refValidate_c t) ?_
  cases ca : (badT t != 0)
  case true =>
    have c' : badT t ≠ 0 := by simpa using ca
    simp -dsimp only [ca, ↓preB, postB, genB, ↓reduceIte, Nat.reduceEqDiff, Int.reduceToNat, Int.reduceLE, Int.reduceLT, Nat.reduceAdd, Nat.reduceLeDiff, intBin, strBin, unD, extractD, lit1, lit2, lit3, keptD, boxR, D.one, D.pub1, D.cells, splice, cutOwn]
    exact Ret.is (by rw [textR, if_pos c'])
  have ht : badT t = 0 := by simpa using ca
  obtain ⟨a3, a4, _⟩ := badT_zero ht
  obtain ⟨a6, _⟩ := table_ok ht
  have a5 := firstE_zero a4
  simp -dsimp only [ca, ↓preB, postB, genB, ↓reduceIte, Nat.reduceEqDiff, Int.reduceToNat, Int.reduceLE, Int.reduceLT, Nat.reduceAdd, Nat.reduceLeDiff, intBin, strBin, unD, extractD, lit1, lit2, lit3, keptD, boxR, D.one, D.pub1, D.cells, splice, cutOwn]
  refine pwp_loopG (fun k env s => k ≤ t.length ∧ (∀ r ∈ t.take k, brkR r = false) ∧ s = σ ∧ env 5 = .str (toB (textL (t.take k))) ∧ env 6 = .bool ((t.take k).any longR) ∧ env 7 = .int .i64 (k:Nat) ∧ env 0 = encT t) (fun k => t.length - k) 0 ?_ ?_
  · simp only [upd_apply, envOf_apply, Nat.reduceEqDiff, if_true, if_false]
    exact ⟨Nat.zero_le _, fun r hr => by simp at hr, trivial, rfl, rfl, rfl, rfl⟩
  · rintro k env s ⟨hk, hb, rfl, h5, h6, h7, h0⟩
    rcases Nat.lt_or_ge k t.length with hlt | hge
    · have hd := rowsD_at hlt
      have hpos : 0 < (rowsD t).length := by rw [rowsD_len]; omega
      have hr := a5 _ (List.getElem_mem hlt)
      have htx := textL_take hlt
      have hlen := textL_len (t := t.take k) fun r hr => a5 r (List.mem_of_mem_take hr)
      rw [List.length_take] at hlen
      have hl1 := writL_len' hr.1
      have hl2 := wordL_len hr.2
      have hany : (t.take (k + 1)).any longR = ((t.take k).any longR || longR t[k]) := by
        rw [List.take_succ_eq_append_getElem hlt, List.any_append]; simp
      have hbs : ∀ r ∈ t.take (k + 1), brkR r = false ∨ r = t[k] := fun r hr => by
        rw [List.take_succ_eq_append_getElem hlt] at hr
        rcases List.mem_append.1 hr with h | h
        · exact .inl (hb r h)
        · exact .inr (List.mem_singleton.1 h)
      have hmem := List.getElem_mem hlt
      have hn : (k : Int) < t.length := by omega
      have hne := a6 _ hmem
      generalize t[k] = r at *
      have hwf : wordL r.From = writL r.From := by rw [wordL, if_neg fun h => hne (List.eq_nil_of_length_eq_zero h)]
      simp -dsimp only [h5, h6, h7, h0, encT, hlt, hd, hpos, hn, ↓preB, postB, genB, ↓reduceIte, Nat.reduceEqDiff, Int.reduceToNat, Int.reduceLE, Int.reduceLT, Nat.reduceAdd, Nat.reduceLeDiff, intBin, strBin, unD, extractD, lit1, lit2, lit3, keptD, boxR, D.one, D.pub1, D.cells, splice, cutOwn]
      intros
      refine Fn.use (brackets_c r.From) ?_
      cases hb1 : brkW r.From
      case true =>
        have hany1 : t.any brkR = true := List.any_eq_true.2 ⟨r, hmem, by rw [brkR, hb1]; rfl⟩
        simp -dsimp only [h5, h6, h7, h0, hb1, gate, show (true == false) = false from rfl, ↓preB, postB, genB, ↓reduceIte, Nat.reduceEqDiff, Int.reduceToNat, Int.reduceLE, Int.reduceLT, Nat.reduceAdd, Nat.reduceLeDiff, intBin, strBin, unD, extractD, lit1, lit2, lit3, keptD, boxR, D.one, D.pub1, D.cells, splice, cutOwn]
        exact Ret.is (by rw [textR, if_neg (by simpa using ht), if_pos hany1])
      simp -dsimp only [h5, h6, h7, h0, hb1, encT, hlt, hd, hpos, hn, gate, show (false == false) = true from rfl, ↓preB, postB, genB, ↓reduceIte, Nat.reduceEqDiff, Int.reduceToNat, Int.reduceLE, Int.reduceLT, Nat.reduceAdd, Nat.reduceLeDiff, intBin, strBin, unD, extractD, lit1, lit2, lit3, keptD, boxR, D.one, D.pub1, D.cells, splice, cutOwn]
      refine Fn.use (brackets_c r.To) ?_
      cases hb2 : brkW r.To
      case true =>
        have hany1 : t.any brkR = true := List.any_eq_true.2 ⟨r, hmem, by rw [brkR, hb1, hb2]; rfl⟩
        simp -dsimp only [h5, h6, h7, h0, hb2, gate, show (true == false) = false from rfl, ↓preB, postB, genB, ↓reduceIte, Nat.reduceEqDiff, Int.reduceToNat, Int.reduceLE, Int.reduceLT, Nat.reduceAdd, Nat.reduceLeDiff, intBin, strBin, unD, extractD, lit1, lit2, lit3, keptD, boxR, D.one, D.pub1, D.cells, splice, cutOwn]
        exact Ret.is (by rw [textR, if_neg (by simpa using ht), if_pos hany1])
      simp -dsimp only [h5, h6, h7, h0, hb2, encT, hlt, hd, hpos, hn, gate, show (false == false) = true from rfl, ↓preB, postB, genB, ↓reduceIte, Nat.reduceEqDiff, Int.reduceToNat, Int.reduceLE, Int.reduceLT, Nat.reduceAdd, Nat.reduceLeDiff, intBin, strBin, unD, extractD, lit1, lit2, lit3, keptD, boxR, D.one, D.pub1, D.cells, splice, cutOwn]
      have hz1 := toB_size (writL r.From)
      have hz2 := toB_size (wordL r.To)
      rw [← hwf] at hz1
      have hz3 := toB_size (textL (t.take k))
      have z3 : (ByteArray.mk #[32, 61, 32]).size = 3 := rfl
      have z1 : (ByteArray.mk #[10]).size = 1 := rfl
      rw [← hwf] at hl1
      have hbs' : ∀ r ∈ t.take (k + 1), brkR r = false := fun x hx => by
        rcases hbs x hx with h | h
        · exact h
        · rw [h, brkR, hb1, hb2]; rfl
      cases hlg : (t.take k).any longR
      case true =>
        rw [hlg] at h6
        simp -dsimp only [h5, h6, h7, h0, encT, hlt, hd, hpos, hn, gate, show (true == false) = false from rfl, show (false == false) = true from rfl, ↓preB, postB, genB, ↓reduceIte, Nat.reduceEqDiff, Int.reduceToNat, Int.reduceLE, Int.reduceLT, Nat.reduceAdd, Nat.reduceLeDiff, intBin, strBin, unD, extractD, lit1, lit2, lit3, keptD, boxR, D.one, D.pub1, D.cells, splice, cutOwn]
        intros
        refine draw_s ?_
        simp -dsimp only [h5, h6, h7, h0, encT, hlt, hd, hpos, hn, ↓preB, postB, genB, ↓reduceIte, Nat.reduceEqDiff, Int.reduceToNat, Int.reduceLE, Int.reduceLT, Nat.reduceAdd, Nat.reduceLeDiff, intBin, strBin, unD, extractD, lit1, lit2, lit3, keptD, boxR, D.one, D.pub1, D.cells, splice, cutOwn]
        refine Fn.useS (word_c' r.From hr.1) ?_
        simp -dsimp only [h5, h6, h7, h0, encT, hlt, hd, hpos, hn, ↓preB, postB, genB, ↓reduceIte, Nat.reduceEqDiff, Int.reduceToNat, Int.reduceLE, Int.reduceLT, Nat.reduceAdd, Nat.reduceLeDiff, intBin, strBin, unD, extractD, lit1, lit2, lit3, keptD, boxR, D.one, D.pub1, D.cells, splice, cutOwn]
        refine ⟨by simp only [big]; omega, ?_⟩
        refine Fn.useS (word_c' r.To hr.2) ?_
        simp -dsimp only [h5, h6, h7, h0, encT, hlt, hd, hpos, hn, ↓preB, postB, genB, ↓reduceIte, Nat.reduceEqDiff, Int.reduceToNat, Int.reduceLE, Int.reduceLT, Nat.reduceAdd, Nat.reduceLeDiff, intBin, strBin, unD, extractD, lit1, lit2, lit3, keptD, boxR, D.one, D.pub1, D.cells, splice, cutOwn]
        refine ⟨by rw [ByteArray.size_append]; simp only [big]; omega, by rw [ByteArray.size_append, ByteArray.size_append]; simp only [big]; omega, by rw [ByteArray.size_append, ByteArray.size_append, ByteArray.size_append]; simp only [big]; omega, k + 1, ⟨by omega, hbs', ?_, ?_, wrap64_succ (by simp only [big]; omega)⟩, by omega⟩
        · rw [htx, rowTx, ← hwf]
          exact ba_ext' (by simp [toB])
        · rw [hany, hlg, longR, ← hwf]
          simp only [Bool.true_or, Bool.false_or]
      rw [hlg] at h6
      simp -dsimp only [h5, h6, h7, h0, encT, hlt, hd, hpos, hn, gate, show (false == false) = true from rfl, ↓preB, postB, genB, ↓reduceIte, Nat.reduceEqDiff, Int.reduceToNat, Int.reduceLE, Int.reduceLT, Nat.reduceAdd, Nat.reduceLeDiff, intBin, strBin, unD, extractD, lit1, lit2, lit3, keptD, boxR, D.one, D.pub1, D.cells, splice, cutOwn]
      refine Fn.use (word_c' r.From hr.1) ?_
      by_cases b1 : 400 < (wordL r.From).length
      · have c1 : (400 : Int) < (wordL r.From).length := by omega
        simp -dsimp only [h5, h6, h7, h0, encT, hlt, hd, hpos, hn, hz1, c1, gate, decide_true, show (true == false) = false from rfl, show (false == false) = true from rfl, ↓preB, postB, genB, ↓reduceIte, Nat.reduceEqDiff, Int.reduceToNat, Int.reduceLE, Int.reduceLT, Nat.reduceAdd, Nat.reduceLeDiff, intBin, strBin, unD, extractD, lit1, lit2, lit3, keptD, boxR, D.one, D.pub1, D.cells, splice, cutOwn]
        intros
        refine draw_s ?_
        simp -dsimp only [h5, h6, h7, h0, encT, hlt, hd, hpos, hn, ↓preB, postB, genB, ↓reduceIte, Nat.reduceEqDiff, Int.reduceToNat, Int.reduceLE, Int.reduceLT, Nat.reduceAdd, Nat.reduceLeDiff, intBin, strBin, unD, extractD, lit1, lit2, lit3, keptD, boxR, D.one, D.pub1, D.cells, splice, cutOwn]
        refine Fn.useS (word_c' r.From hr.1) ?_
        simp -dsimp only [h5, h6, h7, h0, encT, hlt, hd, hpos, hn, ↓preB, postB, genB, ↓reduceIte, Nat.reduceEqDiff, Int.reduceToNat, Int.reduceLE, Int.reduceLT, Nat.reduceAdd, Nat.reduceLeDiff, intBin, strBin, unD, extractD, lit1, lit2, lit3, keptD, boxR, D.one, D.pub1, D.cells, splice, cutOwn]
        refine ⟨by simp only [big]; omega, ?_⟩
        refine Fn.useS (word_c' r.To hr.2) ?_
        simp -dsimp only [h5, h6, h7, h0, encT, hlt, hd, hpos, hn, ↓preB, postB, genB, ↓reduceIte, Nat.reduceEqDiff, Int.reduceToNat, Int.reduceLE, Int.reduceLT, Nat.reduceAdd, Nat.reduceLeDiff, intBin, strBin, unD, extractD, lit1, lit2, lit3, keptD, boxR, D.one, D.pub1, D.cells, splice, cutOwn]
        refine ⟨by rw [ByteArray.size_append]; simp only [big]; omega, by rw [ByteArray.size_append, ByteArray.size_append]; simp only [big]; omega, by rw [ByteArray.size_append, ByteArray.size_append, ByteArray.size_append]; simp only [big]; omega, k + 1, ⟨by omega, hbs', ?_, ?_, wrap64_succ (by simp only [big]; omega)⟩, by omega⟩
        · rw [htx, rowTx, ← hwf]
          exact ba_ext' (by simp [toB])
        · rw [hany, hlg, longR, ← hwf]
          simp only [Bool.true_or, Bool.false_or]
          rw [decide_eq_true b1]; rfl
      have c1 : ¬ (400 : Int) < (wordL r.From).length := by omega
      simp -dsimp only [h5, h6, h7, h0, encT, hlt, hd, hpos, hn, hz1, c1, gate, decide_false, show (false == false) = true from rfl, ↓preB, postB, genB, ↓reduceIte, Nat.reduceEqDiff, Int.reduceToNat, Int.reduceLE, Int.reduceLT, Nat.reduceAdd, Nat.reduceLeDiff, intBin, strBin, unD, extractD, lit1, lit2, lit3, keptD, boxR, D.one, D.pub1, D.cells, splice, cutOwn]
      intros
      refine Fn.use (word_c' r.To hr.2) ?_
      by_cases b2 : 400 < (wordL r.To).length
      · have c2 : (400 : Int) < (wordL r.To).length := by omega
        simp -dsimp only [h5, h6, h7, h0, encT, hlt, hd, hpos, hn, hz2, c1, c2, gate, decide_true, show (true == false) = false from rfl, show (false == false) = true from rfl, ↓preB, postB, genB, ↓reduceIte, Nat.reduceEqDiff, Int.reduceToNat, Int.reduceLE, Int.reduceLT, Nat.reduceAdd, Nat.reduceLeDiff, intBin, strBin, unD, extractD, lit1, lit2, lit3, keptD, boxR, D.one, D.pub1, D.cells, splice, cutOwn]
        intros
        refine draw_s ?_
        simp -dsimp only [h5, h6, h7, h0, encT, hlt, hd, hpos, hn, ↓preB, postB, genB, ↓reduceIte, Nat.reduceEqDiff, Int.reduceToNat, Int.reduceLE, Int.reduceLT, Nat.reduceAdd, Nat.reduceLeDiff, intBin, strBin, unD, extractD, lit1, lit2, lit3, keptD, boxR, D.one, D.pub1, D.cells, splice, cutOwn]
        refine Fn.useS (word_c' r.From hr.1) ?_
        simp -dsimp only [h5, h6, h7, h0, encT, hlt, hd, hpos, hn, ↓preB, postB, genB, ↓reduceIte, Nat.reduceEqDiff, Int.reduceToNat, Int.reduceLE, Int.reduceLT, Nat.reduceAdd, Nat.reduceLeDiff, intBin, strBin, unD, extractD, lit1, lit2, lit3, keptD, boxR, D.one, D.pub1, D.cells, splice, cutOwn]
        refine ⟨by simp only [big]; omega, ?_⟩
        refine Fn.useS (word_c' r.To hr.2) ?_
        simp -dsimp only [h5, h6, h7, h0, encT, hlt, hd, hpos, hn, ↓preB, postB, genB, ↓reduceIte, Nat.reduceEqDiff, Int.reduceToNat, Int.reduceLE, Int.reduceLT, Nat.reduceAdd, Nat.reduceLeDiff, intBin, strBin, unD, extractD, lit1, lit2, lit3, keptD, boxR, D.one, D.pub1, D.cells, splice, cutOwn]
        refine ⟨by rw [ByteArray.size_append]; simp only [big]; omega, by rw [ByteArray.size_append, ByteArray.size_append]; simp only [big]; omega, by rw [ByteArray.size_append, ByteArray.size_append, ByteArray.size_append]; simp only [big]; omega, k + 1, ⟨by omega, hbs', ?_, ?_, wrap64_succ (by simp only [big]; omega)⟩, by omega⟩
        · rw [htx, rowTx, ← hwf]
          exact ba_ext' (by simp [toB])
        · rw [hany, hlg, longR, ← hwf]
          simp only [Bool.true_or, Bool.false_or]
          rw [decide_eq_true b2, Bool.or_true]
      · have c2 : ¬ (400 : Int) < (wordL r.To).length := by omega
        simp -dsimp only [h5, h6, h7, h0, encT, hlt, hd, hpos, hn, hz2, c1, c2, gate, decide_false, show (false == false) = true from rfl, ↓preB, postB, genB, ↓reduceIte, Nat.reduceEqDiff, Int.reduceToNat, Int.reduceLE, Int.reduceLT, Nat.reduceAdd, Nat.reduceLeDiff, intBin, strBin, unD, extractD, lit1, lit2, lit3, keptD, boxR, D.one, D.pub1, D.cells, splice, cutOwn]
        intros
        refine draw_s ?_
        simp -dsimp only [h5, h6, h7, h0, encT, hlt, hd, hpos, hn, ↓preB, postB, genB, ↓reduceIte, Nat.reduceEqDiff, Int.reduceToNat, Int.reduceLE, Int.reduceLT, Nat.reduceAdd, Nat.reduceLeDiff, intBin, strBin, unD, extractD, lit1, lit2, lit3, keptD, boxR, D.one, D.pub1, D.cells, splice, cutOwn]
        refine Fn.useS (word_c' r.From hr.1) ?_
        simp -dsimp only [h5, h6, h7, h0, encT, hlt, hd, hpos, hn, ↓preB, postB, genB, ↓reduceIte, Nat.reduceEqDiff, Int.reduceToNat, Int.reduceLE, Int.reduceLT, Nat.reduceAdd, Nat.reduceLeDiff, intBin, strBin, unD, extractD, lit1, lit2, lit3, keptD, boxR, D.one, D.pub1, D.cells, splice, cutOwn]
        refine ⟨by simp only [big]; omega, ?_⟩
        refine Fn.useS (word_c' r.To hr.2) ?_
        simp -dsimp only [h5, h6, h7, h0, encT, hlt, hd, hpos, hn, ↓preB, postB, genB, ↓reduceIte, Nat.reduceEqDiff, Int.reduceToNat, Int.reduceLE, Int.reduceLT, Nat.reduceAdd, Nat.reduceLeDiff, intBin, strBin, unD, extractD, lit1, lit2, lit3, keptD, boxR, D.one, D.pub1, D.cells, splice, cutOwn]
        refine ⟨by rw [ByteArray.size_append]; simp only [big]; omega, by rw [ByteArray.size_append, ByteArray.size_append]; simp only [big]; omega, by rw [ByteArray.size_append, ByteArray.size_append, ByteArray.size_append]; simp only [big]; omega, k + 1, ⟨by omega, hbs', ?_, ?_, wrap64_succ (by simp only [big]; omega)⟩, by omega⟩
        · rw [htx, rowTx, ← hwf]
          exact ba_ext' (by simp [toB])
        · rw [hany, hlg, longR, ← hwf]
          simp only [Bool.true_or, Bool.false_or]
          rw [decide_eq_false b1, decide_eq_false b2]; rfl
    · have hn : ¬ (k : Int) < t.length := by omega
      have hkl : k = t.length := by omega
      rw [hkl, List.take_length] at h5 h6 hb
      have hnb : t.any brkR = false := List.any_eq_false.2 fun r hr => by rw [hb r hr]; simp
      have htr : textR t = if (t.any longR || decide (6000 < (textL t).length)) = true then (⟨#[]⟩, 3) else (toB (textL t), 0) := by
        rw [textR, if_neg (by simpa using ht), if_neg (by rw [hnb]; simp)]
      have hsz := toB_size (textL t)
      cases hlg : t.any longR
      · rw [hlg] at h6
        by_cases h60 : 6000 < (textL t).length
        · have c6 : (6000 : Int) < (textL t).length := by omega
          simp -dsimp only [h5, h6, h7, h0, encT, hn, hsz, c6, gate, show (false == false) = true from rfl, ↓preB, postB, genB, ↓reduceIte, Nat.reduceEqDiff, Int.reduceToNat, Int.reduceLE, Int.reduceLT, Nat.reduceAdd, Nat.reduceLeDiff, intBin, strBin, unD, extractD, lit1, lit2, lit3, keptD, boxR, D.one, D.pub1, D.cells, splice, cutOwn]
          intros
          exact Ret.is (by rw [htr, hlg, decide_eq_true h60]; rfl)
        · have c6 : ¬ (6000 : Int) < (textL t).length := by omega
          simp -dsimp only [h5, h6, h7, h0, encT, hn, hsz, c6, gate, show (false == false) = true from rfl, ↓preB, postB, genB, ↓reduceIte, Nat.reduceEqDiff, Int.reduceToNat, Int.reduceLE, Int.reduceLT, Nat.reduceAdd, Nat.reduceLeDiff, intBin, strBin, unD, extractD, lit1, lit2, lit3, keptD, boxR, D.one, D.pub1, D.cells, splice, cutOwn]
          intros
          exact Ret.is (by rw [htr, hlg, decide_eq_false h60]; rfl)
      · rw [hlg] at h6
        simp -dsimp only [h5, h6, h7, h0, encT, hn, hsz, gate, show (true == false) = false from rfl, ↓preB, postB, genB, ↓reduceIte, Nat.reduceEqDiff, Int.reduceToNat, Int.reduceLE, Int.reduceLT, Nat.reduceAdd, Nat.reduceLeDiff, intBin, strBin, unD, extractD, lit1, lit2, lit3, keptD, boxR, D.one, D.pub1, D.cells, splice, cutOwn]
        intros
        exact Ret.is (by rw [htr, hlg]; rfl)
end Go.Proofs.YtldlcejlfaogbaaGreatDoor.Vs
