/- numbers of YtldlcejlfaogbaaDoor -/
/- The text of a word. -/
import Derived.Test.YtldlcejlfaogbaaDoorJoF5
namespace Go.Proofs.YtldlcejlfaogbaaDoor.Vs
set_option linter.unusedVariables false
set_option linter.unusedSimpArgs false
set_option maxRecDepth 20000

def writL : Wd → List UInt8
  | [] => []
  | s :: w => (if s.size = 1 then s.data.toList else 60 :: (s.data.toList ++ [62])) ++ writL w
def writB (w : Wd) : ByteArray := ⟨(writL w).toArray⟩
/-- Words of symbols without brackets. -/
def goodX (w : Wd) : Prop := (∀ s ∈ w, s.size ≤ 16) ∧ ∀ s ∈ w, s.data.toList ≠ [] ∧ ∀ b ∈ s.data.toList, b ≠ 60 ∧ b ≠ 62
theorem badW_goodX {w : Wd} (h : badW w = 0) : goodX w := by
  refine ⟨(badW_good h).2.1, fun s hs => ⟨((badW_good h).2.2 s hs).1, fun b hb => ?_⟩⟩
  unfold badW at h
  split at h
  · cases h
  · split at h
    · cases h
    · rename_i h2
      have a2 : ∀ s ∈ w, bytesOK s = true ∧ (s == ⟨#[]⟩) = false := by simpa using h2
      obtain ⟨h3, h4⟩ := a2 s hs
      obtain ⟨i, hi, hbi⟩ := List.getElem_of_mem hb
      have h5 := List.all_eq_true.1 h3 i (List.mem_range.2 (by simpa using hi))
      have hby : byteAt s i = b.toNat := by
        unfold byteAt
        rw [List.getD_eq_getElem?_getD, List.getElem?_eq_getElem hi, hbi]
        rfl
      rw [hby] at h5
      constructor
      · rintro rfl; revert h5; decide
      · rintro rfl; revert h5; decide
theorem cut62 : ∀ {x y T U : List UInt8}, (∀ b ∈ x, b ≠ 62) → (∀ b ∈ y, b ≠ 62) → x ++ 62 :: T = y ++ 62 :: U → x = y ∧ T = U
  | [], [], T, U, _, _, h => ⟨rfl, by simpa using h⟩
  | [], c :: y, T, U, _, hy, h => by
    simp only [List.nil_append, List.cons_append, List.cons.injEq] at h
    exact absurd h.1.symm (hy c (by simp))
  | b :: x, [], T, U, hx, _, h => by
    simp only [List.nil_append, List.cons_append, List.cons.injEq] at h
    exact absurd h.1 (hx b (by simp))
  | b :: x, c :: y, T, U, hx, hy, h => by
    simp only [List.cons_append, List.cons.injEq] at h
    obtain ⟨h1, h2⟩ := cut62 (fun d hd => hx d (List.mem_cons_of_mem _ hd)) (fun d hd => hy d (List.mem_cons_of_mem _ hd)) h.2
    exact ⟨by rw [h.1, h1], h2⟩
theorem writL_inj : ∀ {w v : Wd}, goodX w → goodX v → writL w = writL v → w = v := by
  have inj : ∀ {a b : ByteArray}, a.data.toList = b.data.toList → a = b := fun {a b} h => by cases a; cases b; congr 1; exact Array.toList_inj.1 h
  have one : ∀ {s : ByteArray}, s.size = 1 → ∃ b, s.data.toList = [b] := fun {s} h => by
    have : s.data.toList.length = 1 := by simpa using h
    match s.data.toList, this with
    | [b], _ => exact ⟨b, rfl⟩
  have ne : ∀ {s : ByteArray} {w : Wd}, goodX (s :: w) → writL (s :: w) ≠ [] := fun {s w} h he => by
    have h0 := (h.2 s (by simp)).1
    unfold writL at he
    split at he
    · simp at he; exact h0 (by simpa using he.1)
    · simp at he
  intro w
  induction w with
  | nil =>
    intro v hw hv h
    cases v with
    | nil => rfl
    | cons t v => exact absurd h.symm (ne hv)
  | cons s w ih =>
    intro v hw hv h
    cases v with
    | nil => exact absurd h (ne hw)
    | cons t v =>
      have hs := hw.2 s (by simp)
      have ht := hv.2 t (by simp)
      have hw' : goodX w := ⟨fun x hx => hw.1 x (List.mem_cons_of_mem _ hx), fun x hx => hw.2 x (List.mem_cons_of_mem _ hx)⟩
      have hv' : goodX v := ⟨fun x hx => hv.1 x (List.mem_cons_of_mem _ hx), fun x hx => hv.2 x (List.mem_cons_of_mem _ hx)⟩
      unfold writL at h
      by_cases h1 : s.size = 1 <;> by_cases h2 : t.size = 1
      · rw [if_pos h1, if_pos h2] at h
        obtain ⟨b, hb⟩ := one h1
        obtain ⟨c, hc⟩ := one h2
        rw [hb, hc] at h
        simp only [List.cons_append, List.nil_append, List.cons.injEq] at h
        rw [inj (a := s) (b := t) (by rw [hb, hc, h.1]), ih hw' hv' h.2]
      · rw [if_pos h1, if_neg h2] at h
        obtain ⟨b, hb⟩ := one h1
        rw [hb] at h
        simp only [List.cons_append, List.nil_append, List.cons.injEq] at h
        exact absurd h.1 (hs.2 b (by rw [hb]; simp)).1
      · rw [if_neg h1, if_pos h2] at h
        obtain ⟨c, hc⟩ := one h2
        rw [hc] at h
        simp only [List.cons_append, List.nil_append, List.cons.injEq] at h
        exact absurd h.1.symm (ht.2 c (by rw [hc]; simp)).1
      · rw [if_neg h1, if_neg h2] at h
        simp only [List.cons_append, List.cons.injEq, List.append_assoc, List.nil_append, true_and] at h
        obtain ⟨e1, e2⟩ := cut62 (fun b hb => (hs.2 b hb).2) (fun b hb => (ht.2 b hb).2) h
        rw [inj e1, ih hw' hv' e2]
theorem writB_inj {w v : Wd} (hw : goodX w) (hv : goodX v) (h : writB w = writB v) : w = v := writL_inj hw hv (by
  have := congrArg (fun b : ByteArray => b.data.toList) h
  simpa [writB] using this)
theorem writL_append : ∀ w v : Wd, writL (w ++ v) = writL w ++ writL v
  | [], v => rfl
  | s :: w, v => by rw [List.cons_append, writL, writL, writL_append w v, List.append_assoc]
theorem writL_len : ∀ {w : Wd}, (∀ s ∈ w, s.size ≤ 16) → (writL w).length ≤ 18 * w.length
  | [], _ => by simp [writL]
  | s :: w, h => by
    have ih := writL_len (w := w) fun x hx => h x (List.mem_cons_of_mem _ hx)
    have hs := h s (by simp)
    unfold writL
    split <;> simp <;> omega
theorem ba_ext {a b : ByteArray} (h : a.data.toList = b.data.toList) : a = b := by cases a; cases b; congr 1; exact Array.toList_inj.1 h
theorem writB_next {w : Wd} {k : Nat} (h : k < w.length) : (writB (w.take (k + 1))).data.toList = (writB (w.take k)).data.toList ++ (if w[k].size = 1 then w[k].data.toList else 60 :: (w[k].data.toList ++ [62])) := by
  rw [List.take_succ_eq_append_getElem h]
  simp only [writB, writL_append, writL, List.append_nil, List.toList_toArray]
theorem writB_size {w : Wd} (hw : ∀ s ∈ w, s.size ≤ 16) (k : Nat) : (writB (w.take k)).size ≤ 18 * w.length := by
  have h1 : (writB (w.take k)).size = (writL (w.take k)).length := by rw [Lib.size_eq]; simp [writB]
  have h2 := writL_len (w := w.take k) fun s hs => hw s (List.mem_of_mem_take hs)
  have h3 := List.length_take_le k w
  have h4 : (w.take k).length ≤ w.length := by rw [List.length_take]; omega
  omega
theorem Written_c (w : Wd) (hw : ∀ s ∈ w, s.size ≤ 16) (hl : w.length ≤ 100000) : Fn Zs 32 [encSS w] (.str (writB w)) := by
  refine fn_of (Z := Zs) ok32 fun σ hcl hbl => ?_
  simp -dsimp only [L32, encSS, ↓preB, postB, genB, ↓reduceIte, Nat.reduceEqDiff, Int.reduceToNat, Int.reduceLE, Int.reduceLT, Nat.reduceAdd, Nat.reduceLeDiff, intBin, strBin, unD, extractD, lit1, lit2, lit3, keptD, boxR, D.one, D.pub1, D.cells, splice, cutOwn]
  refine pwp_loopG (fun k env s => k ≤ w.length ∧ env 3 = .str (writB (w.take k)) ∧ s = σ ∧ env 4 = .int .i64 (k:Nat) ∧ env 0 = encSS w) (fun k => w.length - k) 0 ?_ ?_
  · simp [upd_apply, envOf_apply, encSS, writB, writL]
  · rintro k env s ⟨hk, h3, rfl, h4, h0⟩
    rcases Nat.lt_or_ge k w.length with hlt | hge
    · have hx : w[k]? = some w[k] := List.getElem?_eq_getElem hlt
      have hlp : 0 < w.length := by omega
      by_cases hc : w[k].size = 1
      · have hc' : ((w[k].size : Int) == 1) = true := by simp [hc]
        simp -dsimp only [h3, h4, h0, hc', encSS, hlt, hx, hlp, ↓preB, postB, genB, ↓reduceIte, Nat.reduceEqDiff, Int.reduceToNat, Int.reduceLE, Int.reduceLT, Nat.reduceAdd, Nat.reduceLeDiff, intBin, strBin, unD, extractD, lit1, lit2, lit3, keptD, boxR, D.one, D.pub1, D.cells, splice, cutOwn]
        intro q1 q2
        have hsz := writB_size hw k
        refine ⟨by simp only [big]; omega, k + 1, ⟨by omega, ba_ext ?_, wrap64_succ (by omega)⟩, by omega⟩
        rw [writB_next hlt, if_pos hc]
        simp
      · have hc' : ((w[k].size : Int) == 1) = false := by simp; omega
        simp -dsimp only [h3, h4, h0, hc', encSS, hlt, hx, hlp, ↓preB, postB, genB, ↓reduceIte, Nat.reduceEqDiff, Int.reduceToNat, Int.reduceLE, Int.reduceLT, Nat.reduceAdd, Nat.reduceLeDiff, intBin, strBin, unD, extractD, lit1, lit2, lit3, keptD, boxR, D.one, D.pub1, D.cells, splice, cutOwn]
        intro q1 q2
        have hsz := writB_size hw k
        have hwk := hw _ (List.getElem_mem hlt)
        have z1 : (ByteArray.mk #[60]).size = 1 := rfl
        have z2 : (ByteArray.mk #[62]).size = 1 := rfl
        refine ⟨by simp only [big]; omega, by rw [ByteArray.size_append]; simp only [big]; omega, by rw [ByteArray.size_append, ByteArray.size_append]; simp only [big]; omega, k + 1, ⟨by omega, ba_ext ?_, wrap64_succ (by omega)⟩, by omega⟩
        rw [writB_next hlt, if_neg hc]
        simp
    · have hkl : k = w.length := by omega
      subst hkl
      rw [List.take_length] at h3
      simp -dsimp only [h3, h4, h0, encSS, Nat.lt_irrefl, ↓preB, postB, genB, ↓reduceIte, Nat.reduceEqDiff, Int.reduceToNat, Int.reduceLE, Int.reduceLT, Nat.reduceAdd, Nat.reduceLeDiff, intBin, strBin, unD, extractD, lit1, lit2, lit3, keptD, boxR, D.one, D.pub1, D.cells, splice, cutOwn]
      intros
      exact Ret.is rfl
end Go.Proofs.YtldlcejlfaogbaaDoor.Vs
